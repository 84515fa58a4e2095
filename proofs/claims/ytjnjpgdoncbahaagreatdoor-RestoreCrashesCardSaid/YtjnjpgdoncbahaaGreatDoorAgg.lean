/- Structs and arrays by value: a load of one, a store of one, in a list of operations. Nothing of the program. Words of SHA-256 in the walk's own forms; turn. Laws for one step of a region that draws its order: a call of a function by its contract, a copy of a string into an array of the call's own. Nothing of the program. A region that draws its order, walked once in the text's order, under a law on worlds that every operation keeps: what each operation yields is the same in all worlds of that law. Nothing of the program. A region that draws its order, by what each of its slots holds: a fact for each operation's yield (a value may be another one in each order), kept as the world grows. Nothing of the program. A slice of one struct or array, built: of no program. Steps of a region that draws its order, one branch for each order: for regions where an operation makes a block whose number hangs on the order. Nothing of the program. What DecodeQuery holds when a leaf is appended; the steps that region 24 wants. A region that draws its order: operations that read may be taken first, under a law on worlds that is to hold until one of some last operations (the bar) has come up; each of those waits for the reading ones. (The library's wpAnyH with an end.) Nothing of the program. -/
import Derived.Test.YtjnjpgdoncbahaaGreatDoorBase
import Derived.BigQuiet
import Derived.Deep.RegionLaw
import Derived.Still
import Derived.Great.BuildSlice
import Derived.Deep.CutRange
import Derived.OrdersHeld
namespace Go.Proofs.YtjnjpgdoncbahaaGreatDoor
open Go.RowKit Go.Lib
variable {d:TypeDesc}{t ty:TypeId}{v:Value}{x:Operand}
def aggD:TypeDesc→Bool | .struct _ | .array _ _=> true | _=> false
section
variable {P:Program} {w:World}
theorem run_isAgg(ty:TypeId)(hu:P.underlying ty=some d)(hd:aggD d=true):(isAgg ty).run P w= .ok true w:=by unfold isAgg;rw[Sem.run_bind,run_underlying hu w];cases d <;> simp_all [aggD]
theorem run_loadVar_at(g off:Nat)(ty:TypeId)(vs:List Value)(hu:P.underlying ty=some d)(hd:aggD d=true)(hi:(P.info? ty).map (·.size)=some vs.length)
 (hc:∀j v,vs[j]? =some v→w.cell? ⟨g,off+j,none⟩=some v):(loadVar ty ⟨g,off,none⟩).run P w= .ok (.agg vs.toArray) w:=by
 have hl:(loadCells ⟨g,off,none⟩ vs.length).run P w= .ok vs.toArray w:=
  run_loadCells_list (P:=P) w ⟨g,off,none⟩ vs (fun j v hv=> by
   have hadd:(⟨g,off,none⟩:Addr).add j=⟨g,off+j,none⟩:=by unfold Addr.add;split <;> simp_all
   rw[hadd];exact hc j v hv)
 cases hq:P.info? ty with
 | none=> simp[hq] at hi
 | some i=>
  have hs:i.size=vs.length:=by simpa[hq] using hi
  simp[loadVar,Sem.run_bind,run_isAgg (w:=w) ty hu hd,sizeOf,typeInfo,hq,hs,hl]
theorem wpList_loadAgg{ops:Array Oper}{rest:List Oper}{o:Oper}{a:Act}{Q:Exit→Act→World→Prop}(hgd:o.guard=none)(ty:TypeId)(x:Operand)(ho:o.op= .load ty x)
 (g off:Nat) (hx:a.eval x= .pointer (some ⟨g,off,none⟩)) (vs:List Value) (hu:P.underlying ty=some d) (hd:aggD d=true) (hi:(P.info? ty).map (·.size)=some vs.length)
 (hc:∀j v,vs[j]? =some v→w.cell? ⟨g,off+j,none⟩=some v)
 (h:wpList P ops Q rest (a.put o.dst (.agg vs.toArray)) w):wpList P ops Q (o::rest) a w:=by
 refine wpList_plain hgd fun _ hK=> ?_;unfold Oper.wp execOp;simp only[ho,hx,Instr.loadAt,Instr.sureAddr,Sem.run_bind,Sem.run_pure,Result.andThen_ok,run_loadVar_at g off ty vs hu hd hi hc];exact hK _ _ h
def over(cs:List Value)(off:Nat)(vs:List Value):List Value:=cs.take off++(vs++cs.drop (off+vs.length))
theorem over_all(cs vs:List Value)(h:cs.length=vs.length):over cs 0 vs=vs:=by simp[over,←h]
theorem wpList_storeAgg{ops:Array Oper}{rest:List Oper}{o:Oper}{a:Act}{Q:Exit→Act→World→Prop}(hgd:o.guard=none)(ty:TypeId)(x y:Operand)(ho:o.op= .store ty x y)
 (g off:Nat) (hx:a.eval x= .pointer (some ⟨g,off,none⟩)) (vs:List Value) (hy:a.eval y= .agg vs.toArray) (hi:(P.info? ty).map (·.size)=some vs.length)
 (cs:List Value) (t:TypeId) (hg:w.heap[g]? =some (.cells cs.toArray t (0,0))) (hfit:off+vs.length≤cs.length) (h1:∀u∈vs,u.oneCell'=true)
 (h:wpList P ops Q rest (a.put o.dst undef) (w.setRow g (over cs off vs).toArray)):wpList P ops Q (o::rest) a w:=by
 refine wpList_plain hgd fun _ hK=> ?_;have hst:=run_storeCells_at P g off t vs 0 cs.toArray w hg (by simpa using hfit) h1;cases hq:P.info? ty with
 | none=> simp[hq] at hi
 | some i=>
  have hs:i.size=vs.length:=by simpa[hq] using hi
  have hadd:(⟨g,off+0,none⟩:Addr)=⟨g,off,none⟩:=rfl;unfold Oper.wp execOp;simp only[Nat.add_zero] at hst;simp[ho,hx,hy,Instr.storeAt,Instr.sureAddr,storeVar,sizeOf,typeInfo,hq,hs,Value.cells,hst];exact hK _ _ h
end
theorem blk_setRow{w:World}{g:Nat}{cs:Array Value}{f:Nat×Nat}(h:w.heap[g]? =some (.cells cs t f))(cs':Array Value):(w.setRow g cs').heap[g]? =some (.cells cs' t f):=setRow_heap w g cs cs' t f h
theorem blk_setRow_ne{w:World}{g k:Nat}{o:Obj}(h:w.heap[k]? =some o)(hne:k≠g)(cs':Array Value):(w.setRow g cs').heap[k]? =some o:=(setRow_other w g k cs' hne).trans h
theorem Upd.setRow{S:Nat→Prop}{w w1:World}(h:Upd S w w1){g:Nat}(hp:w.heap.size≤g∨S g)(cs:Array Value):Upd S w (w1.setRow g cs):=
 ⟨h.os,h.tape,h.output,by have:=h.size;simp;omega,fun k hk hn=> by rw[setRow_other w1 g k cs (fun e=> by subst e;exact hp.elim (fun h1=> by omega) hn)];exact h.block k hk hn⟩
theorem setRow_alloc(w:World)(z cs:Array Value)(t:TypeId)(f:Nat×Nat):(w.alloc (.cells z t f)).setRow w.heap.size cs=w.alloc (.cells cs t f):=by
 have e:((w.heap.push (.cells z t f)).modify w.heap.size fun | .cells _ elem frozen=> .cells cs elem frozen | o=> o)=w.heap.push (.cells cs t f):=by
  apply Array.ext
  ·simp
  ·intro i h1 h2;simp only[Array.getElem_modify,Array.getElem_push];by_cases hi:i < w.heap.size
   ·simp[hi,Nat.ne_of_gt hi]
   ·have:w.heap.size=i:=by simp at h1;omega
    simp[this]
 show {w with heap:=_}=({w with heap:=_}:World);congr 1
def turnI(x:Int)(n:Nat):Int:=bits .or .u32 (x / 2 ^ n) (x*2 ^ (32 - n) % 4294967296)
theorem turn_any(w:World)(x:Int)(n:Nat)(hn:n≤32):
 Calls Tryz.prog 304 #[.int .u32 x,.int .i64 n] w fun e w'=> e= .returned (.int .u32 (turnI x n))∧∃m,w'=w.drewN m:=by
 have h0:(0:Int)≤n:=by omega
 have h1:(n:Int)≤32:=by omega
 have h2:(0:Int)≤32 - n:=by omega
 have h3:(32:Int) - n≤32:=by omega
 have h4:((32:Int) - n).toNat=32 - n:=by omega
 go_enter Tryz.func304,Tryz.ntmps304;go_wp2_with fail;go_quiet (fail);go_wp2_with fail;go_ret;exact ⟨rfl,_,rfl⟩
theorem turn_at(w:World)(x:Int)(n:Nat)(hn:n≤32)(k:Nat):
 Calls Tryz.prog 304 #[.int .u32 x,.int .i64 n] (w.drewN k) fun e w'=> e= .returned (.int .u32 (turnI x n))∧∃m,w'=w.drewN m:=Calls.quiet_of (turn_any _ x n hn)
theorem turn7(w:World)(x:Int)(k:Nat):Calls Tryz.prog 304 #[.int .u32 x,.int .i64 7] (w.drewN k) fun e w'=> e= .returned (.int .u32 (turnI x 7))∧∃m,w'=w.drewN m:=turn_at w x 7 (by omega) k
theorem turn18(w:World)(x:Int)(k:Nat):Calls Tryz.prog 304 #[.int .u32 x,.int .i64 18] (w.drewN k) fun e w'=> e= .returned (.int .u32 (turnI x 18))∧∃m,w'=w.drewN m:=turn_at w x 18 (by omega) k
theorem turn17(w:World)(x:Int)(k:Nat):Calls Tryz.prog 304 #[.int .u32 x,.int .i64 17] (w.drewN k) fun e w'=> e= .returned (.int .u32 (turnI x 17))∧∃m,w'=w.drewN m:=turn_at w x 17 (by omega) k
theorem turn19(w:World)(x:Int)(k:Nat):Calls Tryz.prog 304 #[.int .u32 x,.int .i64 19] (w.drewN k) fun e w'=> e= .returned (.int .u32 (turnI x 19))∧∃m,w'=w.drewN m:=turn_at w x 19 (by omega) k
theorem turn6(w:World)(x:Int)(k:Nat):Calls Tryz.prog 304 #[.int .u32 x,.int .i64 6] (w.drewN k) fun e w'=> e= .returned (.int .u32 (turnI x 6))∧∃m,w'=w.drewN m:=turn_at w x 6 (by omega) k
theorem turn11(w:World)(x:Int)(k:Nat):Calls Tryz.prog 304 #[.int .u32 x,.int .i64 11] (w.drewN k) fun e w'=> e= .returned (.int .u32 (turnI x 11))∧∃m,w'=w.drewN m:=turn_at w x 11 (by omega) k
theorem turn25(w:World)(x:Int)(k:Nat):Calls Tryz.prog 304 #[.int .u32 x,.int .i64 25] (w.drewN k) fun e w'=> e= .returned (.int .u32 (turnI x 25))∧∃m,w'=w.drewN m:=turn_at w x 25 (by omega) k
theorem turn2(w:World)(x:Int)(k:Nat):Calls Tryz.prog 304 #[.int .u32 x,.int .i64 2] (w.drewN k) fun e w'=> e= .returned (.int .u32 (turnI x 2))∧∃m,w'=w.drewN m:=turn_at w x 2 (by omega) k
theorem turn13(w:World)(x:Int)(k:Nat):Calls Tryz.prog 304 #[.int .u32 x,.int .i64 13] (w.drewN k) fun e w'=> e= .returned (.int .u32 (turnI x 13))∧∃m,w'=w.drewN m:=turn_at w x 13 (by omega) k
theorem turn22(w:World)(x:Int)(k:Nat):Calls Tryz.prog 304 #[.int .u32 x,.int .i64 22] (w.drewN k) fun e w'=> e= .returned (.int .u32 (turnI x 22))∧∃m,w'=w.drewN m:=turn_at w x 22 (by omega) k
section
variable {P:Program}
def hasBody(P:Program)(f:FuncId):Bool:=match P.funcs[f]? with | some fn=> fn.body.isSome && !(fn.name== "runtime.NumGoroutine") | none=> false
theorem run_callFunc_body(w:World)(f:FuncId)(args:Array Value)(h:hasBody P f=true):(callFunc f args).run P w= .ok (.enter f args) w:=by
 unfold hasBody at h;cases hf:P.funcs[f]? with
 | none=> rw[hf] at h;cases h
 | some fn=>
  rw[hf] at h;simp only[Bool.and_eq_true,Bool.not_eq_true'] at h;obtain ⟨hb,hn⟩:=h;have hb':fn.body≠none:=by intro e;rw[e] at hb;cases hb
  have hn':fn.name≠ "runtime.NumGoroutine" :=by simpa using hn
  simp[callFunc,hf,hn',hb']
theorem step_call{ops:Array Oper}{o:Oper}{a:Act}{w:World}{K:Act→World→Prop}{Q:Exit→Act→World→Prop}{E:Prop}(hw:Region.wanted o (yielded ops a.tmps)=true)(f:FuncId)(args:List Operand)(ts:Array TypeId)
 (ho:o.op= .call {callee:= .value (.func f),args:=args.toArray,argTypes:=ts}) (hb:hasBody P f=true) (vals:List Value) (hv:args.map a.eval=vals) {R:Value→World→Prop}
 (C:Calls P f vals.toArray w fun e w'=> ∃v,e= .returned v∧R v w') (h:∀v w',R v w'→K (a.put o.dst v) w'):
 if Region.wanted o (yielded ops a.tmps)=true then Oper.wp P o a w K Q else E:=by
 rw[if_pos hw];subst hv;unfold Oper.wp;have hr:(execOp a.eval o).run P w= .ok (.enter f (args.map a.eval).toArray) w:=by simp[execOp,ho,resolve,Deferred.ofValue,Act.eval,invoke];exact run_callFunc_body w f _ hb
 rw[hr];exact C.mono fun e w' ⟨v,he,hR⟩=> by subst he;exact h v w' hR
end
section
variable {P:Program} {ops:Array Oper} {md:Region.Mode} {I:World→Prop}
def InvRes(P:Program)(I:World→Prop)(v:Value):Result Next→Prop
 | .ok (.value u) w'=> u=v∧I w'
 | .ok .skip w'=> v=undef∧I w'
 | .ok (.enter f args) w'=> Calls P f args w' fun e w''=> e= .returned v∧I w''
 | _=> False
def InvYields(P:Program)(ops:Array Oper)(I:World→Prop)(o:Oper)(v:Value)(a:Act):Prop:=
 (Region.wanted o (yielded ops a.tmps)=true∧∀w,I w→InvRes P I v ((execOp a.eval o).run P w))∨(Region.wanted o (yielded ops a.tmps)=false∧v=undef)
def wpInv(P:Program)(ops:Array Oper)(I:World→Prop)(Q:Act→Prop):List Oper→Act→Prop
 | [],a=> Q a
 | o::rest,a=> ∃v,InvYields P ops I o v a∧wpInv P ops I Q rest (a.put o.dst v)
def anyInv(P:Program)(md:Region.Mode)(ops:Array Oper)(I:World→Prop)(Q:Act→Prop):Nat→Array Bool→Act→Prop
 | 0,listed,a=> Region.ready md ops listed= []∧Q a
 | n+1,listed,a=> (Region.ready md ops listed= []→Q a)∧
  ∀i∈Region.ready md ops listed,∃o v,ops[i]? =some o∧InvYields P ops I o v a∧anyInv P md ops I Q n (listed.setIfInBounds i true) (a.put o.dst v)
theorem InvYields.of_put{o:Oper}{a:Act}{d:Option Tmp}{u:Value}(hs:∀cs b,o.op≠ .select cs b)(h:∀t,d=some t→t∉o.looksAt ops):InvYields P ops I o v (a.put d u)↔InvYields P ops I o v a:=by unfold InvYields;rw[execOp_put o hs a d u h,wanted_put o a d u h]
theorem InvYields.wp{o:Oper}{i:Nat}{a:Act}{w:World}(hi:ops[i]? =some o)(hy:InvYields P ops I o v a)(hw:I w){K:Act→World→Prop}{Q:Exit→Act→World→Prop}(h:∀w',I w'→K (a.put o.dst v) w'):wpOp P ops Q i K a w:=by
 unfold wpOp;simp only[hi];rcases hy with ⟨h1,h2⟩ | ⟨h1,rfl⟩
 ·rw[if_pos h1];left;have:=h2 w hw;unfold Oper.wp;generalize (execOp a.eval o).run P w=r at this⊢;cases r with
  | ok n w'=>
   cases n <;> simp only[InvRes] at this <;> simp only[Oper.upon]
   case value u=> obtain ⟨rfl,h3⟩:=this;exact h _ h3
   case skip=> obtain ⟨rfl,h3⟩:=this;exact h _ h3
   case enter f args=> exact this.mono fun e w'' ⟨he,h3⟩=> by subst he;exact h _ h3
  | halt x w'=> simp only[InvRes] at this
 ·rw[h1];exact h _ hw
theorem anyInv_sound{Q:Act→Prop}{Q':Exit→Act→World→Prop}(hQ:∀a w,Q a→I w→Q' .normal a w):∀(n:Nat) (listed:Array Bool) (a:Act),anyInv P md ops I Q n listed a→∀w,I w→wpAny P md ops Q' n listed a w
 | 0,_,_,h,w,hw=> ⟨h.1,hQ _ w h.2 hw⟩
 | n+1,_,_,h,w,hw=> ⟨fun h0=> hQ _ w (h.1 h0) hw,fun i hi=> by obtain ⟨o,v,ho,hy,hk⟩:=h.2 i hi;exact hy.wp ho hw fun w' hw'=> anyInv_sound hQ n _ _ hk w' hw'⟩
theorem anyInv_first{Q:Act→Prop}{i:Nat}{oi:Oper}(hi:ops[i]? =some oi)(hsel:∀(j:Nat) (o:Oper) cs b,ops[j]? =some o→o.op≠ .select cs b):
 ∀(n:Nat) (listed:Array Bool) (a:Act),
  (∀j oj,ops[j]? =some oj→j≠i→listed.getD j true=false→(∀e∈oj.after,Region.binds md e=true→e.on≠i)→oi.apart ops oj=true)→
  i∈Region.ready md ops listed→InvYields P ops I oi v a→anyInv P md ops I Q n (listed.setIfInBounds i true) (a.put oi.dst v)→anyInv P md ops I Q (n+1) listed a:=by
 intro n;induction n with
 | zero=>
  intro listed a _ hr hy H;refine ⟨fun h=> (by rw[h] at hr;cases hr),fun j hj=> ?_⟩;by_cases hji:j=i
  ·subst hji;exact ⟨oi,v,hi,hy,H⟩
  ·have:=ready_mono hj hji;rw[H.1] at this;cases this
 | succ n ih=>
  intro listed a hfree hr hy H;refine ⟨fun h=> (by rw[h] at hr;cases hr),fun j hj=> ?_⟩;by_cases hji:j=i
  ·subst hji;exact ⟨oi,v,hi,hy,H⟩
  ·obtain ⟨oj,u,hoj,hyj,hkj⟩:=H.2 j (ready_mono hj hji);obtain ⟨hjun,oj',hoj',hall⟩:=mem_ready.1 hj;obtain rfl:oj'=oj:=Option.some.inj (hoj'.symm.trans hoj);have hnot:∀e∈oj'.after,Region.binds md e=true→e.on≠i:=fun e he hb heq=> by
    have h1:=hall e he hb;have h0:=(mem_ready.1 hr).1;rw[heq] at h1;rcases Nat.lt_or_ge i listed.size with h' | h'
    ·simp[h'] at h0 h1;rw[h0] at h1;cases h1
    ·simp[Array.getElem?_eq_none h'] at h1
   obtain ⟨a1,a2,a3⟩:=Oper.apart_spec (hfree j oj' hoj hji hjun hnot);have hfree':∀k ok,ops[k]? =some ok→k≠i→(listed.setIfInBounds j true).getD k true=false→
    (∀e∈ok.after,Region.binds md e=true→e.on≠i)→oi.apart ops ok=true:=fun k ok hk hki hun hno=> by
    refine hfree k ok hk hki ?_ hno;by_cases hjk:j=k
    ·subst hjk;exact hjun
    ·rw[getD_set_ne true hjk] at hun;exact hun
   refine ⟨oj',u,hoj,(InvYields.of_put (hsel j oj' · · hoj) a1).1 hyj,ih (listed.setIfInBounds j true) (a.put oj'.dst u) hfree' (ready_mono hr (Ne.symm hji)) ((InvYields.of_put (hsel i oi · · hi) a3).2 hy) ?_⟩;rw[Array.setIfInBounds_comm _ _ hji,Act.put_comm a u v (fun d hd e=> a2 d e hd)];exact hkj
theorem anyInv_lex{Q:Act→Prop}(hs:Region.noSelect ops=true):∀(l:List Oper) (k:Nat) (listed:Array Bool) (a:Act),(∀j,l[j]? =ops[k+j]?)→
 Region.lexFrom md ops l.length k listed=true→wpInv P ops I Q l a→anyInv P md ops I Q l.length listed a
 | [],_,_,_,_,hB,h=> ⟨by simpa[Region.lexFrom] using hB,h⟩
 | o::l,k,listed,a,hl,hB,h=> by
  have h0:ops[k]? =some o:=by simpa using (hl 0).symm
  simp only[List.length_cons,Region.lexFrom,Bool.and_eq_true] at hB;obtain ⟨⟨hr,hf⟩,hB'⟩:=hB;obtain ⟨v,hy,hK⟩:=h;exact anyInv_first h0 (Region.noSelect_spec hs) l.length listed a (Region.free_spec h0 hf) (by simpa using hr) hy
   (anyInv_lex hs l (k+1) _ _ (fun j=> by have:=hl (j+1);simpa[Nat.add_assoc,Nat.add_comm 1 j] using this) hB' hK)
theorem region_inv{id:Nat}{Q:Exit→Act→World→Prop}{a:Act}{w:World}{l:List Oper}(I:World→Prop)(hm:P.follows .mixedOrders=true)(hB:Region.lexB .any l.toArray=true)(hI:I w.drew)
 (h:wpInv P l.toArray I (fun a'=> ∀w',I w'→Q .normal a' w') l a):(Code.region id l.toArray true).wp P Q a w:=by
 simp only[Region.lexB,Bool.and_eq_true] at hB;refine wp_region_any hm (anyInv_sound (Q:=fun a'=> ∀w',I w'→Q .normal a' w') (fun a w h hw=> h w hw) _ _ _ ?_ _ hI);have:=anyInv_lex (md:= .any) hB.1 l 0 (Array.replicate l.toArray.size false) a (by simp) (by simpa using hB.2) h;simpa using this
variable {Q:Act→Prop} {o:Oper} {rest:List Oper} {a:Act}
theorem inv_pure(hw:Region.wanted o (yielded ops a.tmps)=true)(h:∀w,(execOp a.eval o).run P w= .ok (.value v) w)(hk:wpInv P ops I Q rest (a.put o.dst v)):wpInv P ops I Q (o::rest) a:=
 ⟨v,.inl ⟨hw,fun w hI=> by rw[h w];exact ⟨rfl,hI⟩⟩,hk⟩
theorem inv_read(hw:Region.wanted o (yielded ops a.tmps)=true)(h:∀w,I w→(execOp a.eval o).run P w= .ok (.value v) w)(hk:wpInv P ops I Q rest (a.put o.dst v)):wpInv P ops I Q (o::rest) a:=
 ⟨v,.inl ⟨hw,fun w hI=> by rw[h w hI];exact ⟨rfl,hI⟩⟩,hk⟩
theorem inv_call(hw:Region.wanted o (yielded ops a.tmps)=true)(f:FuncId)(args:List Operand)(ts:Array TypeId)
 (ho:o.op= .call {callee:= .value (.func f),args:=args.toArray,argTypes:=ts}) (hb:hasBody P f=true) (vals:List Value) (hv:args.map a.eval=vals)
 (C:∀w,I w→Calls P f vals.toArray w fun e w'=> e= .returned v∧I w') (hk:wpInv P ops I Q rest (a.put o.dst v)):wpInv P ops I Q (o::rest) a:=by
 refine ⟨v,.inl ⟨hw,fun w hI=> ?_⟩,hk⟩;subst hv;have hr:(execOp a.eval o).run P w= .ok (.enter f (args.map a.eval).toArray) w:=by simp[execOp,ho,resolve,Deferred.ofValue,Act.eval,invoke];exact run_callFunc_body w f _ hb
 rw[hr];exact C w hI
theorem inv_move(hw:Region.wanted o (yielded ops a.tmps)=true)(ho:o.op= .move x)(v:Value)(hv:a.eval x=v)(hk:wpInv P ops I Q rest (a.put o.dst v)):wpInv P ops I Q (o::rest) a:=by subst hv;exact inv_pure hw (fun w=> by simp[execOp,ho]) hk
theorem inv_loadAgg(hw:Region.wanted o (yielded ops a.tmps)=true)(ty:TypeId)(x:Operand)(ho:o.op= .load ty x)
 (g off:Nat) (hx:a.eval x= .pointer (some ⟨g,off,none⟩)) (vs:List Value) (hu:P.underlying ty=some d) (hd:aggD d=true) (hi:(P.info? ty).map (·.size)=some vs.length)
 (hc:∀w,I w→∀j v,vs[j]? =some v→w.cell? ⟨g,off+j,none⟩=some v) (hk:wpInv P ops I Q rest (a.put o.dst (.agg vs.toArray))):wpInv P ops I Q (o::rest) a:=
 inv_read hw (fun w hI=> by simp only[execOp,ho,hx,Instr.loadAt,Instr.sureAddr,Sem.run_bind,Sem.run_pure,Result.andThen_ok,run_loadVar_at g off ty vs hu hd hi (hc w hI)]) hk
theorem inv_not(hw:Region.wanted o (yielded ops a.tmps)=true)(ho:o.op= .unOp .not ty x)(b:Bool)(hx:a.eval x= .bool b)(hk:wpInv P ops I Q rest (a.put o.dst (.bool !b))):wpInv P ops I Q (o::rest) a:=
 inv_pure hw (fun w=> by simp[execOp,ho,hx,Op.unary]) hk
theorem inv_indexSlice{ix:Operand}(hw:Region.wanted o (yielded ops a.tmps)=true)(ho:o.op= .indexAddr t x ix)(g off len cap k sz:Nat)(e:TypeId)(hx:a.eval x= .slice (some ⟨g,off,none⟩) len cap)(hi:a.eval ix= .int .i64 k)(hk:k < len)
 (hu:P.underlying t=some (.slice e)) (hs:(P.info? e).map (·.size)=some sz) (h:wpInv P ops I Q rest (a.put o.dst (.pointer (some ⟨g,off+k*sz,none⟩)))):wpInv P ops I Q (o::rest) a:=by
 refine inv_pure hw (fun w=> ?_) h;have hadd:(⟨g,off,none⟩:Addr).add (k*sz)=⟨g,off+k*sz,none⟩:=by unfold Addr.add;split <;> simp_all
 cases hq:P.info? e with
 | none=> simp[hq] at hs
 | some i=>
  have his:i.size=sz:=by simpa[hq] using hs
  have hk2:(0:Int)≤(k:Int)∧(k:Int) < len:=by omega
  simp[execOp,ho,hx,hi,Instr.indexAt,run_underlying hu,asIntOf,sizeOf,typeInfo,hq,his,hk2,hk,hadd]
theorem inv_load1(hw:Region.wanted o (yielded ops a.tmps)=true)(ho:o.op= .load ty x)(p:Addr)(v:Value)(hx:a.eval x= .pointer (some p))(hu:P.underlying ty=some d)(hd:aggD d=false)
 (hc:∀w,I w→w.cell? p=some v) (h:wpInv P ops I Q rest (a.put o.dst v)):wpInv P ops I Q (o::rest) a:=by
 refine inv_read hw (fun w hI=> ?_) h;have hc:=hc w hI;have hagg:(isAgg ty).run P w= .ok false w:=by unfold isAgg;rw[Sem.run_bind,run_underlying hu w];cases d <;> simp_all [aggD]
 simp[execOp,ho,hx,Instr.loadAt,Instr.sureAddr,loadVar,Sem.run_bind,hagg,hc]
theorem inv_norm{l:List Oper}{a':Act}(h:a=a')(hk:wpInv P ops I Q l a'):wpInv P ops I Q l a:=h▸hk
end
section
variable {P:Program}
def OutRes(P:Program)(Φ:Value→World→Prop)(w:World):Result Next→Prop
 | .ok (.value u) w'=> Ext w w'∧Φ u w'
 | .ok (.enter f args) w'=> Calls P f args w' fun e w''=> ∃v,e= .returned v∧Ext w w''∧Φ v w''
 | _=> False
def afterOn(o:Oper):List Nat:=(o.after.toList.filter fun e=> Region.binds .any e).map (·.on)
def OpSpec(P:Program)(l:List Oper)(w0:World)(Φ:Nat→Value→World→Prop)(a0:Act)(i:Nat)(o:Oper):Prop:=
 ∀(a:Act) (w:World),Ext w0 w→(∀t,(∀o'∈l,o'.dst≠some t)→a.eval (.tmp t)=a0.eval (.tmp t))→(∀j o' d,l[j]? =some o'→j∈afterOn o→o'.dst=some d→Φ j (a.eval (.tmp d)) w)→
  if Region.wanted o (yielded l.toArray a.tmps)=true then OutRes P (Φ i) w ((execOp a.eval o).run P w) else Φ i undef w
structure RJ (l:List Oper) (w0:World) (Φ:Nat→Value→World→Prop) (a0:Act) (listed:Array Bool) (a:Act) (w:World):Prop where
 I:Ext w0 w
 sz:listed.size=l.length
 df:a.defers=a0.defers
 tz:a.tmps.size=a0.tmps.size
 old:∀t,(∀i o,l[i]? =some o→listed.getD i false=true→o.dst≠some t)→a.tmps[t]? =a0.tmps[t]?
 new:∀i o d,l[i]? =some o→listed.getD i false=true→o.dst=some d→Φ i (a.eval (.tmp d)) w
def onceB(l:List Oper)(n:Nat):Bool:=
 (List.range l.length).all fun i=> (List.range l.length).all fun j=> match l[i]?,l[j]? with
  | some o,some o'=> (match o.dst with | some d=> decide (d < n) && (decide (i=j) || o'.dst !=some d) | none=> true)
  | _,_=> true
theorem once_spec{l:List Oper}{n:Nat}(h:onceB l n=true){i:Nat}{o:Oper}{d:Nat}(hi:l[i]? =some o)(hd:o.dst=some d):d < n∧∀j o',l[j]? =some o'→j≠i→o'.dst≠some d:=by
 have hil:i < l.length:=(List.getElem?_eq_some_iff.1 hi).1;have h1:=List.all_eq_true.1 h i (List.mem_range.2 hil);refine ⟨?_,fun j o' hj hne=> ?_⟩
 ·have h2:=List.all_eq_true.1 h1 i (List.mem_range.2 hil);simp only[hi,hd,Bool.and_eq_true,decide_eq_true_eq] at h2;exact h2.1
 ·have h2:=List.all_eq_true.1 h1 j (List.mem_range.2 (List.getElem?_eq_some_iff.1 hj).1);simp only[hi,hj,hd,Bool.and_eq_true,decide_eq_true_eq,Bool.or_eq_true] at h2;rcases h2.2 with h3 | h3
  ·exact absurd h3.symm hne
  ·simpa using h3
theorem getD_set(listed:Array Bool)(i j:Nat)(hi:i < listed.size):(listed.setIfInBounds i true).getD j false=if i=j then true else listed.getD j false:=by
 by_cases h:i=j
 ·subst h;simp[hi]
 ·rw[if_neg h,getD_set_ne false h]
theorem put_get(a:Act)(d:Nat)(v:Value)(t:Nat)(hd:d < a.tmps.size):(a.put (some d) v).tmps[t]? =if d=t then some v else a.tmps[t]? :=by
 unfold Act.put;by_cases h:d=t
 ·subst h;simp[hd]
 ·rw[if_neg h];exact Array.getElem?_setIfInBounds_ne h
theorem eval_of_get{a:Act}{t:Nat}(h:a.tmps[t]? =some v):a.eval (.tmp t)=v:=by show a.tmps.getD t undef=v;rw[Array.getD_eq_getD_getElem?,h];rfl
theorem eval_congr{a b:Act}{t:Nat}(h:a.tmps[t]? =b.tmps[t]?):a.eval (.tmp t)=b.eval (.tmp t):=by show a.tmps.getD t undef=b.tmps.getD t undef;rw[Array.getD_eq_getD_getElem?,Array.getD_eq_getD_getElem?,h]
theorem RJ.step{l:List Oper}{w0:World}{Φ:Nat→Value→World→Prop}{a0:Act}{listed:Array Bool}{a:Act}{w w':World}{i:Nat}{o:Oper}(hm:∀j v w w',Φ j v w→Ext w w'→Φ j v w')(ho:onceB l a0.tmps.size=true)
 (h:RJ l w0 Φ a0 listed a w) (hi:l[i]? =some o) (hu:Ext w w') (hv:Φ i v w'):RJ l w0 Φ a0 (listed.setIfInBounds i true) (a.put o.dst v) w':=by
 have hil:i < listed.size:=by rw[h.sz];exact (List.getElem?_eq_some_iff.1 hi).1
 cases hd:o.dst with
 | none=>
  refine ⟨h.I.thenExt hu,by simpa using h.sz,h.df,h.tz,fun t ht=> h.old t (fun j oj hj hl=> ht j oj hj ?_),fun j oj d hj hl hdj=> ?_⟩
  ·rw[getD_set _ _ _ hil];split; · rfl
   exact hl
  ·rw[getD_set _ _ _ hil] at hl;split at hl
   ·rename_i e;subst e;rw[hi] at hj;cases hj
    rw[hd] at hdj;cases hdj
   ·exact hm _ _ _ _ (h.new j oj d hj hl hdj) hu
 | some d=>
  obtain ⟨hdn,hne⟩:=once_spec ho hi hd;have hdn2:d < a.tmps.size:=by rw[h.tz];exact hdn
  refine ⟨h.I.thenExt hu,by simpa using h.sz,h.df,by simpa[Act.put] using h.tz,fun t ht=> ?_,fun j oj e hj hl hdj=> ?_⟩
  ·rw[put_get a d v t hdn2,if_neg (fun e=> ht i o hi (by rw[getD_set _ _ _ hil,if_pos rfl]) (by rw[hd,e]))];exact h.old t (fun j oj hj hl=> ht j oj hj (by rw[getD_set _ _ _ hil];split <;> first | rfl | exact hl))
  ·rw[getD_set _ _ _ hil] at hl;split at hl
   ·rename_i e1;subst e1;rw[hi] at hj;cases hj
    rw[hd] at hdj;cases hdj
    rw[eval_of_get (show (a.put (some d) v).tmps[d]? =some v by rw[put_get a d v d hdn2,if_pos rfl])];exact hv
   ·rename_i e1;rw[eval_congr (show (a.put (some d) v).tmps[e]? =a.tmps[e]? by rw[put_get a d v e hdn2,if_neg (fun e2=> hne j oj hj (fun e3=> e1 e3.symm) (by rw[hdj,e2]))])];exact hm _ _ _ _ (h.new j oj e hj hl hdj) hu
theorem count_lt{α:Type}(p q:α→Bool):∀(l:List α),(∀x,q x=true→p x=true)→(∃x∈l,p x=true∧q x=false)→l.countP q < l.countP p
 | [],_,⟨x,hx,_⟩=> by cases hx
 | y::l,h,⟨x,hx,h1,h2⟩=> by
  have le:l.countP q≤l.countP p:=List.countP_mono_left (fun x _=> h x);rcases List.mem_cons.1 hx with e | hx
  ·subst e;rw[List.countP_cons_of_neg (by simp[h2]),List.countP_cons_of_pos h1];omega
  ·have ih:=count_lt p q l h ⟨x,hx,h1,h2⟩;rw[List.countP_cons,List.countP_cons];by_cases hq:q y=true
   ·rw[if_pos hq,if_pos (h y hq)];omega
   ·rw[if_neg hq];omega
theorem any_typed{l:List Oper}{w0:World}{Φ:Nat→Value→World→Prop}{a0:Act}{Q:Exit→Act→World→Prop}(hm:∀j v w w',Φ j v w→Ext w w'→Φ j v w')(ho:onceB l a0.tmps.size=true)
 (spec:∀i o,l[i]? =some o→OpSpec P l w0 Φ a0 i o) (hQ:∀listed a w,RJ l w0 Φ a0 listed a w→Region.ready .any l.toArray listed= []→Q .normal a w):
 ∀(n:Nat) (listed:Array Bool) (a:Act) (w:World),RJ l w0 Φ a0 listed a w→(List.range l.length).countP (fun i=> !listed.getD i true)≤n→wpAny P .any l.toArray Q n listed a w:=by
 intro n;induction n with
 | zero=>
  intro listed a w h hc;have hr:Region.ready .any l.toArray listed= []:=by
   apply List.eq_nil_iff_forall_not_mem.2;intro j hj;obtain ⟨h1,o,h2,_⟩:=mem_ready.1 hj;have hjl:j < l.length:=by simpa using (Array.getElem?_eq_some_iff.1 h2).1
   have:0 < (List.range l.length).countP (fun i=> !listed.getD i true):=List.countP_pos_iff.2 ⟨j,List.mem_range.2 hjl,by simp[h1]⟩;omega
  exact ⟨hr,hQ listed a w h hr⟩
 | succ n ih=>
  intro listed a w h hc;refine ⟨fun hr=> hQ listed a w h hr,fun i hi=> ?_⟩;obtain ⟨h1,o,h2,h3⟩:=mem_ready.1 hi;have hil:l[i]? =some o:=by simpa using h2
  have hlt:i < l.length:=(List.getElem?_eq_some_iff.1 hil).1;have hc2:(List.range l.length).countP (fun j=> !(listed.setIfInBounds i true).getD j true)≤n:=by
   have:=count_lt (fun j=> !listed.getD j true) (fun j=> !(listed.setIfInBounds i true).getD j true) (List.range l.length) (fun j hj=> by
    by_cases e:i=j
    ·subst e;simp[show i < listed.size by rw[h.sz];exact hlt] at hj
    ·rw[getD_set_ne true e] at hj;exact hj) ⟨i,List.mem_range.2 hlt,by simp[h1],by simp[show i < listed.size by rw[h.sz];exact hlt]⟩
   omega
  have sp:=spec i o hil a w h.I (fun t ht=> eval_congr (h.old t (fun j o' hj _=> ht o' (List.mem_of_getElem? hj)))) (fun j o' d hj hon hd=> by obtain ⟨e,he,rfl⟩:=List.mem_map.1 hon;obtain ⟨he1,he2⟩:=List.mem_filter.1 he;exact h.new _ o' d hj (h3 e (by simpa using he1) he2) hd)
  unfold wpOp;simp only[h2];split
  ·rename_i hw;rw[if_pos hw] at sp;left;unfold Oper.wp;generalize (execOp a.eval o).run P w=r at sp⊢;cases r with
   | ok nx w'=>
    cases nx <;> simp only[OutRes] at sp <;> simp only[Oper.upon]
    case value u=> exact ih _ _ _ (h.step hm ho hil sp.1 sp.2) hc2
    case enter f args=> exact sp.mono fun e w'' ⟨v,he,h4,h5⟩=> by subst he;exact ih _ _ _ (h.step hm ho hil h4 h5) hc2
   | halt x w'=> simp only[OutRes] at sp
  ·rename_i hw;rw[if_neg hw] at sp;exact ih _ _ _ (h.step hm ho hil (Upd.refl _ _) sp) hc2
def putAll(v:Nat→Value):List Oper→Nat→Act→Act
 | [],_,a=> a
 | o::l,k,a=> putAll v l (k+1) (a.put o.dst (v k))
theorem putAll_df(v:Nat→Value):∀(l:List Oper) (k:Nat) (a:Act),(putAll v l k a).defers=a.defers∧(putAll v l k a).tmps.size=a.tmps.size
 | [],_,_=> ⟨rfl,rfl⟩
 | o::l,k,a=> by
  obtain ⟨h1,h2⟩:=putAll_df v l (k+1) (a.put o.dst (v k));refine ⟨h1.trans ?_,h2.trans ?_⟩
  ·cases o.dst <;> rfl
  ·cases o.dst <;> simp[Act.put]
theorem putAll_old(v:Nat→Value)(t:Nat):∀(l:List Oper) (k:Nat) (a:Act),(∀o∈l,o.dst≠some t)→(putAll v l k a).tmps[t]? =a.tmps[t]?
 | [],_,_,_=> rfl
 | o::l,k,a,h=> by
  refine (putAll_old v t l (k+1) (a.put o.dst (v k)) (fun o' ho'=> h o' (by simp[ho']))).trans ?_;have:=h o (by simp);cases hd:o.dst with
  | none=> rfl
  | some d=> exact Array.getElem?_setIfInBounds_ne (fun e=> this (by rw[hd,e]))
theorem putAll_new(v:Nat→Value)(t:Nat):∀(l:List Oper) (k:Nat) (a:Act) (j:Nat) (o:Oper),l[j]? =some o→o.dst=some t→t < a.tmps.size→(∀j' o',l[j']? =some o'→j'≠j→o'.dst≠some t)→(putAll v l k a).tmps[t]? =some (v (k+j))
 | [],_,_,_,_,h,_,_,_=> by simp at h
 | o0::l,k,a,0,o,h,hd,ht,hn=> by
  have e:o0=o:=by simpa using h
  subst e;refine (putAll_old v t l (k+1) _ (fun o' ho'=> ?_)).trans ?_
  ·obtain ⟨i,hi,rfl⟩:=List.mem_iff_getElem.1 ho';exact hn (i+1) _ (by simp[hi]) (by omega)
  ·rw[hd,put_get a t (v k) t ht,if_pos rfl];rfl
 | o0::l,k,a,j+1,o,h,hd,ht,hn=> by
  have h2:l[j]? =some o:=by simpa using h
  have hs:(a.put o0.dst (v k)).tmps.size=a.tmps.size:=by cases o0.dst <;> simp[Act.put]
  have:=putAll_new v t l (k+1) (a.put o0.dst (v k)) j o h2 hd (by rw[hs];exact ht) (fun j' o' h3 h4=> hn (j'+1) o' (by simpa using h3) (by omega));rw[show k+(j+1)=k+1+j by omega];exact this
def backB(l:List Oper):Bool:=(List.range l.length).all fun i=> match l[i]? with | some o=> (afterOn o).all (fun j=> decide (j < i)) | none=> true
theorem all_listed{l:List Oper}{listed:Array Bool}(hs:listed.size=l.length)(hb:backB l=true)(hr:Region.ready .any l.toArray listed= []):∀i,i < l.length→listed.getD i false=true:=by
 intro i;induction i using Nat.strongRecOn with
 | _ i ih=>
  intro hi;rcases Bool.eq_false_or_eq_true (listed.getD i false) with h | h
  ·exact h
  ·exfalso;have ho:l[i]? =some l[i]:=List.getElem?_eq_getElem hi;have hb1:=List.all_eq_true.1 hb i (List.mem_range.2 hi);simp only[ho] at hb1;have:i∈Region.ready .any l.toArray listed:=mem_ready.2 ⟨by simp[show i < listed.size by omega] at h⊢;exact h,l[i],by simp,fun e he hbi=> by have h1:=List.all_eq_true.1 hb1 e.on (List.mem_map.2 ⟨e,List.mem_filter.2 ⟨by simpa using he,hbi⟩,rfl⟩);simp only[decide_eq_true_eq] at h1;exact ih e.on h1 (by omega)⟩
   rw[hr] at this;cases this
theorem region_typed{id:Nat}{Q:Exit→Act→World→Prop}{a:Act}{w:World}{l:List Oper}(Φ:Nat→Value→World→Prop)(hmix:P.follows .mixedOrders=true)(hm:∀j v w w',Φ j v w→Ext w w'→Φ j v w')(ho:onceB l a.tmps.size=true)
 (hb:backB l=true) (spec:∀i o,l[i]? =some o→OpSpec P l w Φ a i o)
 (h:∀(v:Nat→Value) w',Ext w w'→(∀i o d,l[i]? =some o→o.dst=some d→Φ i (v i) w')→Q .normal (putAll v l 0 a) w'):(Code.region id l.toArray true).wp P Q a w:=by
 refine wp_region_any hmix ?_;refine any_typed (w0:=w) (Φ:=Φ) (a0:=a) hm ho spec ?_ _ _ _ _ ⟨(Upd.refl none' w).drew,by simp,rfl,rfl,fun _ _=> rfl,fun i o d _ hl=> by rw[Array.getD_eq_getD_getElem?,Array.getElem?_replicate] at hl;split at hl <;> simp at hl⟩ ?_
 ·intro listed a' w' hJ hr;have hl:=all_listed hJ.sz hb hr;have key:∃v:Nat→Value,∀(i:Nat) (o:Oper) (d:Tmp),l[i]? =some o→o.dst=some d→v i=a'.eval (.tmp d):=⟨fun i=> match (l[i]?).bind (·.dst) with | some d=> a'.eval (.tmp d) | none=> undef,fun i o d hi hd=> by simp[hi,hd]⟩;obtain ⟨v,hv⟩:=key;have e:a'=putAll v l 0 a:=by
   obtain ⟨d1,d2⟩:=putAll_df v l 0 a;have ht:a'.tmps=(putAll v l 0 a).tmps:=by
    apply Array.ext_getElem?;intro t;by_cases hx:∃(i:Nat) (o:Oper),l[i]? =some o∧o.dst=some t
    ·obtain ⟨i,o,hi,hd⟩:=hx;obtain ⟨h1,h2⟩:=once_spec ho hi hd;rw[putAll_new v t l 0 a i o hi hd h1 h2,Nat.zero_add,hv i o t hi hd];have h3:t < a'.tmps.size:=by rw[hJ.tz];exact h1
     rw[Array.getElem?_eq_getElem h3];show _=some (a'.tmps.getD t undef);rw[Array.getD_eq_getD_getElem?,Array.getElem?_eq_getElem h3];rfl
    ·have hx:∀(i:Nat) (o:Oper),l[i]? =some o→o.dst≠some t:=fun i o hi hd=> hx ⟨i,o,hi,hd⟩;rw[putAll_old v t l 0 a (fun o ho'=> by obtain ⟨i,hi,rfl⟩:=List.mem_iff_getElem.1 ho';exact hx i _ (List.getElem?_eq_getElem hi))]
     exact hJ.old t (fun i o hi _=> hx i o hi)
   cases a'
   cases hp:putAll v l 0 a
   rw[hp] at ht d1;simp only[Act.mk.injEq];exact ⟨ht,hJ.df.trans d1.symm⟩
  rw[e];refine h v w' hJ.I (fun i o d hi hd=> ?_);rw[hv i o d hi hd];exact hJ.new i o d hi (hl i (List.getElem?_eq_some_iff.1 hi).1) hd
 ·refine Nat.le_trans List.countP_le_length ?_;simp
end
theorem fold_zip(l:List Value):∀(k:Nat) (z:Array Value) (n:Nat),z.size=n→k+l.length≤n→
 let r:=(l.zipIdx k).foldl (fun cs (x:Value×Nat)=> cs.setIfInBounds (0+x.2) x.1) z
 r.size=n∧∀i,r[i]? =if k≤i∧i < k+l.length then l[i - k]? else z[i]? :=by
 induction l with
 | nil=>
  intro k z n hz _;refine ⟨hz,fun i=> ?_⟩;rw[if_neg (by simp only[List.length_nil];omega)];rfl
 | cons v l ih=>
  intro k z n hz hk;simp only[List.length_cons] at hk;have h:=ih (k+1) (z.setIfInBounds (0+k) v) n (by simpa using hz) (by omega);refine ⟨h.1,fun i=> ?_⟩;have h2:=h.2 i;simp only[List.zipIdx_cons,List.foldl_cons] at h2⊢;rw[h2];by_cases h1:k+1≤i∧i < k+1+l.length
  ·rw[if_pos h1,if_pos (by simp only[List.length_cons];omega),show i - k=(i - (k+1))+1 by omega,List.getElem?_cons_succ]
  ·rw[if_neg h1];by_cases h3:i=k
   ·subst h3;rw[if_pos (by simp only[List.length_cons];omega),Nat.sub_self,List.getElem?_cons_zero,Nat.zero_add,Array.getElem?_setIfInBounds_self_of_lt (by omega)]
   ·rw[if_neg (by simp only[List.length_cons];omega),Nat.zero_add,Array.getElem?_setIfInBounds_ne (by omega)]
theorem fold_all(l:List Value)(z:Array Value)(hz:z.size=l.length):l.toArray.zipIdx.foldl (fun cs (x:Value×Nat)=> cs.setIfInBounds (0+x.2) x.1) z=l.toArray:=by
 rw[←Array.foldl_toList,Array.toList_zipIdx];obtain ⟨h1,h2⟩:=fold_zip l 0 z l.length hz (by omega);apply Array.ext_getElem?;intro i;have:=h2 i;simp only at this h1⊢;rw[this];by_cases hi:i < l.length
 ·rw[if_pos (by omega),Nat.sub_zero];simp
 ·have a1:z[i]? =none:=Array.getElem?_eq_none (by omega);have a2:l.toArray[i]? =none:=Array.getElem?_eq_none (by rw[List.size_toArray];omega);rw[if_neg (by omega),a1,a2]
theorem wpList_buildOne{P:Program}{w:World}{ops:Array Oper}{rest:List Oper}{o:Oper}{a:Act}{Q:Exit→Act→World→Prop}(hg:o.guard=none)(t e:TypeId)(y:Operand)(ho:o.op= .buildSlice t 1 #[(0,y)])
 (vs:List Value) (hy:a.eval y= .agg vs.toArray) (hu:P.underlying t=some (.slice e)) (hi:(P.info? e).map (·.size)=some vs.length) (hz:((P.info? e).bind (·.zero)).isSome=true) (hpos:0 < vs.length) (hsmall:vs.length≤16777216)
 (h:wpList P ops Q rest (a.put o.dst (.slice (some ⟨w.heap.size,0,none⟩) 1 1)) (w.alloc (.cells vs.toArray e))):wpList P ops Q (o::rest) a w:=by
 cases hie:P.info? e with
 | none=> simp[hie] at hi
 | some ie=>
  simp only[hie,Option.map_some,Option.some.injEq,Option.bind_some] at hi hz;obtain ⟨z,hzz⟩:=Option.isSome_iff_exists.1 hz;refine wpList_buildSlice hg t e 1 _ ho vs.toArray ie z hu hie hzz (by rw[hi];omega) (by rw[hi];omega) ?_ h;simp only[List.map_toArray,List.map_cons,List.map_nil,hy,Instr.fill,Value.cells,hi,Nat.zero_mul,Nat.one_mul];rw[if_neg (by simp),fold_all _ _ (by simp)]
section
variable {P:Program} {ops:Array Oper} {Q:Exit→Act→World→Prop} {n:Nat} {listed:Array Bool} {a:Act} {w:World}
theorem any1(i:Nat)(hr:Region.ready .any ops listed= [i])(h:wpOp P ops Q i (wpAny P .any ops Q n (listed.setIfInBounds i true)) a w):wpAny P .any ops Q (n+1) listed a w:=
 wpAny_all hr (by simp) (fun j hj=> by rw[List.mem_singleton.1 hj];exact h)
variable {i:Nat} {o:Oper} {K:Act→World→Prop}
theorem op_val{w':World}(hi:ops[i]? =some o)(hw:Region.wanted o (yielded ops a.tmps)=true)(hr:(execOp a.eval o).run P w= .ok (.value v) w')(h:K (a.put o.dst v) w'):wpOp P ops Q i K a w:=by unfold wpOp;simp only[hi];rw[if_pos hw];left;unfold Oper.wp;rw[hr];exact h
theorem op_callf(hi:ops[i]? =some o)(hw:Region.wanted o (yielded ops a.tmps)=true)(f:FuncId)(args:List Operand)(ts:Array TypeId)
 (ho:o.op= .call {callee:= .value (.func f),args:=args.toArray,argTypes:=ts}) (hb:hasBody P f=true) (vals:List Value) (hv:args.map a.eval=vals) {R:Value→World→Prop}
 (C:Calls P f vals.toArray w fun e w'=> ∃v,e= .returned v∧R v w') (h:∀v w',R v w'→K (a.put o.dst v) w'):wpOp P ops Q i K a w:=by
 unfold wpOp;simp only[hi];rw[if_pos hw];left;have:=step_call (Q:=Q) (E:=True) hw f args ts ho hb vals hv C h;rwa [if_pos hw] at this
theorem op_storeAgg(hi:ops[i]? =some o)(hw:Region.wanted o (yielded ops a.tmps)=true)(ty:TypeId)(x y:Operand)(ho:o.op= .store ty x y)
 (g:Nat) (hx:a.eval x= .pointer (some ⟨g,0,none⟩)) (vs:List Value) (hy:a.eval y= .agg vs.toArray) (hs:(P.info? ty).map (·.size)=some vs.length)
 (cs:List Value) (t:TypeId) (hg:w.heap[g]? =some (.cells cs.toArray t (0,0))) (hfit:cs.length=vs.length) (h1:∀u∈vs,u.oneCell'=true)
 (h:K (a.put o.dst undef) (w.setRow g vs.toArray)):wpOp P ops Q i K a w:=by
 unfold wpOp;simp only[hi];rw[if_pos hw];left;have hst:=run_storeCells_at P g 0 t vs 0 cs.toArray w hg (by simp;omega) h1;cases hq:P.info? ty with
 | none=> simp[hq] at hs
 | some it=>
  have hss:it.size=vs.length:=by simpa[hq] using hs
  have hov:vs++List.drop vs.length cs=vs:=by rw[List.drop_eq_nil_of_le (by omega),List.append_nil]
  simp only[Nat.add_zero,Nat.zero_add] at hst;unfold Oper.wp execOp;simp[ho,hx,hy,Instr.storeAt,Instr.sureAddr,storeVar,sizeOf,typeInfo,hq,hss,Value.cells,hst,hov];exact h
end
section
variable {P:Program} {ops:Array Oper} {Q:Exit→Act→World→Prop} {a:Act} {w:World} {i:Nat} {o:Oper} {K:Act→World→Prop}
theorem any_normQ{md:Region.Mode}{n:Nat}{listed:Array Bool}{a':Act}(h:a=a')(hk:wpAny P md ops Q n listed a' w):wpAny P md ops Q n listed a w:=h▸hk
theorem op_build1Q(hi:ops[i]? =some o)(hw:Region.wanted o (yielded ops a.tmps)=true)(t e:TypeId)(y:Operand)(ho:o.op= .buildSlice t 1 #[(0,y)])(v:Value)(hy:a.eval y=v)(hu:P.underlying t=some (.slice e))
 (ie:TypeInfo) (z:Value) (hie:P.info? e=some ie) (hz:ie.zero=some z) (hs:ie.size=1) (hv:v.cells=#[v]) (h:K (a.put o.dst (.slice (some ⟨w.heap.size,0,none⟩) 1 1)) (w.alloc (.cells #[v] e))):wpOp P ops Q i K a w:=by
 refine op_val hi hw ?_ h;have hr:=run_buildSlice (P:=P) w t e 1 #[(0,v)] #[v] ie z hu hie hz (by rw[hs];omega) (by rw[hs];omega) (by simp only[Instr.fill,hs,Nat.zero_mul,Nat.one_mul,hv];rw[if_neg (by simp)];have:=fold_all [v] ((Array.range 1).map (z.cells[· % z.cells.size]!)) (by simp);simpa using this)
 simp only[execOp,ho,List.map_toArray,List.map_cons,List.map_nil,hy,Sem.run_bind,hr,Result.andThen_ok];rfl
theorem op_store1(hi:ops[i]? =some o)(hw:Region.wanted o (yielded ops a.tmps)=true)(ty:TypeId)(x y:Operand)(ho:o.op= .store ty x y)
 (p:Addr) (hx:a.eval x= .pointer (some p)) (v:Value) (hy:a.eval y=v) (hcs:v.cells=#[v]) (h1:v.oneCell'=true) (hs:(P.info? ty).map (·.size)=some 1)
 (c:Value) (hc:w.cell? p=some c) (hf:w.frozen? p=false) (h:K (a.put o.dst undef) (w.setCell p v)):wpOp P ops Q i K a w:=by
 unfold wpOp;simp only[hi];rw[if_pos hw];left;cases hq:P.info? ty with
 | none=> simp[hq] at hs
 | some it=>
  have hss:it.size=1:=by simpa[hq] using hs
  have h0:p.add 0=p:=by cases p;unfold Addr.add;split <;> simp_all
  have hst:(storeCells p [v] 0).run P w= .ok () (w.setCell p v):=by simp only[storeCells,Sem.run_bind,h0];rw[run_store P w p v .plain h1,hc];simp[hf]
  unfold Oper.wp execOp;simp[ho,hx,hy,Instr.storeAt,Instr.sureAddr,storeVar,sizeOf,typeInfo,hq,hss,hcs,hst];exact h
theorem op_app1(hgi:ops[i]? =some o)(hw:Region.wanted o (yielded ops a.tmps)=true)(s x:Operand)(t:TypeId)
 (ho:o.op= .call {callee:= .builtin .append,args:=#[s,x],argTypes:=#[t,t]})
 (base:Nat) (e:TypeId) (it:TypeInfo) (z:Value) (size bytes:Nat) (ht:P.underlying t=some (.slice e)) (hi:P.info? e=some it) (hz:it.zero=some z)
 (hsize:it.size=size) (hby:it.bytes=bytes) (hzs:z.cells.size=size) (hsz:0 < size)
 (v:Value) (n:Nat) (xs:List Value) (hs:a.eval s=v) (hown:w.ownsRow base e size v n xs)
 (ad:Addr) (m c:Nat) (news:List Value) (hx:a.eval x= .slice (some ad) m c) (hl:news.length=m*size) (hnews:∀j u,news[j]? =some u→w.cell? (ad.add j)=some u) (h1:∀u∈news,u.oneCell'=true)
 (h63:n+m≤maxLen) (hbytes:(n+m)*bytes≤140737488355328) (hbase:base≤w.heap.size)
 (h:∀v' w',w'.ownsRow base e size v' (n+m) (xs++news)→w.grownBy w' v.ownBlock→(v'.ownBlock=v.ownBlock∨v'.ownBlock=some w.heap.size)→K (a.put o.dst v') w'):wpOp P ops Q i K a w:=by
 obtain ⟨v',w',hr,h2,h3,_⟩:=run_append_own (P:=P) w base t o.type e it z size bytes ht hi hz hsize hby hzs hsz v n xs hown ad m c news hl hnews h1 h63 hbytes hbase;subst hsize;subst hby;have h4:=append_block w base t o.type e it z ht hi hz v n xs hown ad m c news hl hnews h1 h63 hbytes v' w' hr;refine op_val hgi hw ?_ (h v' w' h2 h3 h4);unfold execOp;simp only[ho,resolve,invoke,builtin,Sem.run_bind,Sem.run_pure,Result.andThen_ok,List.map_toArray,List.map_cons,List.map_nil,hs,hx,hr]
end
section
end
theorem own_cells{w:World}{B e size n:Nat}{xs:List Value}(h:w.ownsRow B e size v n xs):v.cells=#[v]:=by rcases h.2 with ⟨rfl,_⟩ | ⟨g,cap,cur,rfl,_⟩ <;> rfl
section
variable {P:Program} {ops:Array Oper} {Q:Exit→Act→World→Prop} {md:Region.Mode} {S:World→Prop} {Bs:List Nat}
def openB(Bs:List Nat)(listed:Array Bool):Bool:=Bs.all fun b=> !listed.getD b false
def waitsB(md:Region.Mode)(ops:Array Oper)(Bs:List Nat)(i:Nat):Bool:=Bs.all fun b=> b !=i && match ops[b]? with | some ob=> ob.after.toList.any (fun e=> Region.binds md e && e.on==i) | none=> false
def wpAnyB(P:Program)(md:Region.Mode)(ops:Array Oper)(Q:Exit→Act→World→Prop)(S:World→Prop)(Bs:List Nat):Nat→Array Bool→Act→World→Prop
 | 0,listed,a,w=> Region.ready md ops listed= []∧Q .normal a w
 | fuel+1,listed,a,w=>
  (Region.ready md ops listed= []→Q .normal a w)∧
  ∀i∈Region.ready md ops listed,wpOp P ops Q i (fun a' w'=> (openB Bs (listed.setIfInBounds i true)=true→S w')∧wpAnyB P md ops Q S Bs fuel (listed.setIfInBounds i true) a' w') a w
theorem wpAny_of_bar:∀(fuel:Nat) (listed:Array Bool) (a:Act) (w:World),wpAnyB P md ops Q S Bs fuel listed a w→wpAny P md ops Q fuel listed a w
 | 0,_,_,_,h=> h
 | fuel+1,_,_,_,h=> ⟨h.1,fun i hi=> wpOp_mono (fun a' w' h'=> wpAny_of_bar fuel _ a' w' h'.2) (h.2 i hi)⟩
theorem open_set{listed:Array Bool}{j:Nat}(h:openB Bs listed=true)(hj:j∉Bs):openB Bs (listed.setIfInBounds j true)=true:=by unfold openB at*;rw[List.all_eq_true] at*;intro b hb;have h1:=h b hb;rw[getD_set_ne false (show j≠b from fun e=> hj (by rw[e];exact hb))];exact h1
theorem wpAnyB_first{i:Nat}{oi:Oper}(hi:ops[i]? =some oi)(hsel:∀(j:Nat) (o:Oper) cs b,ops[j]? =some o→o.op≠ .select cs b)
 (hQ:∀c a w,Q (.panic c) (a.put oi.dst v) w→Q (.panic c) a w) (hw:waitsB md ops Bs i=true):
 ∀(fuel:Nat) (listed:Array Bool) (a:Act) (w:World),
  (∀j oj,ops[j]? =some oj→j≠i→listed.getD j true=false→(∀e∈oj.after,Region.binds md e=true→e.on≠i)→oi.apart ops oj=true)→
  i∈Region.ready md ops listed→YieldsIf P ops S oi v a→S w→openB Bs listed=true→
  wpAnyB P md ops Q S Bs fuel (listed.setIfInBounds i true) (a.put oi.dst v) w→wpAnyB P md ops Q S Bs (fuel+1) listed a w:=by
 have hiB:i∉Bs:=fun h=> by have:=List.all_eq_true.1 hw i h;simp at this
 intro fuel;induction fuel with
 | zero=>
  intro listed a w _ hr hy hS ho H;refine ⟨fun h=> (by rw[h] at hr;cases hr),fun j hj=> ?_⟩;by_cases hji:j=i
  ·subst hji;exact hy.wpOp hi hS ⟨fun _=> hS,H⟩
  ·have:=ready_mono hj hji;rw[H.1] at this;cases this
 | succ fuel ih=>
  intro listed a w hfree hr hy hS ho H;refine ⟨fun h=> (by rw[h] at hr;cases hr),fun j hj=> ?_⟩;by_cases hji:j=i
  ·subst hji;exact hy.wpOp hi hS ⟨fun _=> hS,H⟩
  ·have h1:=H.2 j (ready_mono hj hji);obtain ⟨hjun,oj,hoj,hall⟩:=mem_ready.1 hj;have hnot:∀e∈oj.after,Region.binds md e=true→e.on≠i:=fun e he hb heq=> by
    have h1:=hall e he hb;have h0:=(mem_ready.1 hr).1;rw[heq] at h1;rcases Nat.lt_or_ge i listed.size with h' | h'
    ·simp[h'] at h0 h1;rw[h0] at h1;cases h1
    ·simp[Array.getElem?_eq_none h'] at h1
   have hjB:j∉Bs:=fun h=> by have h2:=List.all_eq_true.1 hw j h;simp only[hoj,Bool.and_eq_true,List.any_eq_true,beq_iff_eq] at h2;obtain ⟨_,e,he,hb,heq⟩:=h2;exact hnot e (by simpa using he) hb heq
   have hop2:openB Bs ((listed.setIfInBounds i true).setIfInBounds j true)=true:=open_set (open_set ho hiB) hjB;have h2:=wpOp_putIf hoj (hfree j oj hoj hji hjun hnot) (fun cs b=> hsel i oi cs b hi) (fun cs b=> hsel j oj cs b hoj) hQ hy h1;have hfree':∀k ok,ops[k]? =some ok→k≠i→(listed.setIfInBounds j true).getD k true=false→
    (∀e∈ok.after,Region.binds md e=true→e.on≠i)→oi.apart ops ok=true:=fun k ok hk hki hun hno=> by
    refine hfree k ok hk hki ?_ hno;by_cases hjk:j=k
    ·subst hjk;exact hjun
    ·rw[getD_set_ne true hjk] at hun;exact hun
   refine wpOp_mono (fun a' w' h3=> ⟨fun _=> h3.2.1 hop2,ih (listed.setIfInBounds j true) a' w' hfree' (ready_mono hr (Ne.symm hji)) h3.1 (h3.2.1 hop2) (open_set ho hjB) ?_⟩) h2;rw[Array.setIfInBounds_comm _ _ hji];exact h3.2.2
theorem bar_take{i:Nat}{oi:Oper}{fuel:Nat}{listed:Array Bool}{a:Act}{w:World}(hi:ops[i]? =some oi)
 (hs:Region.noSelect ops=true) (hf:Region.free md ops listed i=true) (hr:(Region.ready md ops listed).contains i=true) (hw:waitsB md ops Bs i=true) (ho:openB Bs listed=true)
 (hQ:∀c a w,Q (.panic c) (a.put oi.dst v) w→Q (.panic c) a w) (hy:YieldsIf P ops S oi v a) (hS:S w)
 (h:wpAnyB P md ops Q S Bs fuel (listed.setIfInBounds i true) (a.put oi.dst v) w):wpAnyB P md ops Q S Bs (fuel+1) listed a w:=
 wpAnyB_first hi (Region.noSelect_spec hs) hQ hw fuel listed a w (Region.free_spec hi hf) (by simpa using hr) hy hS ho h
theorem wpAnyB_pure{i:Nat}{oi:Oper}(hi:ops[i]? =some oi)(hsel:∀(j:Nat) (o:Oper) cs b,ops[j]? =some o→o.op≠ .select cs b)
 (hQ:∀c a w,Q (.panic c) (a.put oi.dst v) w→Q (.panic c) a w) (hiB:i∉Bs):
 ∀(fuel:Nat) (listed:Array Bool) (a:Act) (w:World),
  (∀j oj,ops[j]? =some oj→j≠i→listed.getD j true=false→(∀e∈oj.after,Region.binds md e=true→e.on≠i)→oi.apart ops oj=true)→
  i∈Region.ready md ops listed→YieldsIf P ops (fun _=> True) oi v a→(openB Bs listed=true→S w)→
  wpAnyB P md ops Q S Bs fuel (listed.setIfInBounds i true) (a.put oi.dst v) w→wpAnyB P md ops Q S Bs (fuel+1) listed a w:=by
 have hop:∀{L:Array Bool},openB Bs (L.setIfInBounds i true)=true→openB Bs L=true:=fun {L} h=> by unfold openB at*;rw[List.all_eq_true] at*;intro b hb;have h1:=h b hb;rwa [getD_set_ne false (show i≠b from fun e=> hiB (by rw[e];exact hb))] at h1
 intro fuel;induction fuel with
 | zero=>
  intro listed a w _ hr hy hS H;refine ⟨fun h=> (by rw[h] at hr;cases hr),fun j hj=> ?_⟩;by_cases hji:j=i
  ·subst hji;exact hy.wpOp hi trivial ⟨fun ho=> hS (hop ho),H⟩
  ·have:=ready_mono hj hji;rw[H.1] at this;cases this
 | succ fuel ih=>
  intro listed a w hfree hr hy hS H;refine ⟨fun h=> (by rw[h] at hr;cases hr),fun j hj=> ?_⟩;by_cases hji:j=i
  ·subst hji;exact hy.wpOp hi trivial ⟨fun ho=> hS (hop ho),H⟩
  ·have h1:=H.2 j (ready_mono hj hji);obtain ⟨hjun,oj,hoj,hall⟩:=mem_ready.1 hj;have hnot:∀e∈oj.after,Region.binds md e=true→e.on≠i:=fun e he hb heq=> by
    have h1:=hall e he hb;have h0:=(mem_ready.1 hr).1;rw[heq] at h1;rcases Nat.lt_or_ge i listed.size with h' | h'
    ·simp[h'] at h0 h1;rw[h0] at h1;cases h1
    ·simp[Array.getElem?_eq_none h'] at h1
   have h2:=wpOp_putIf hoj (hfree j oj hoj hji hjun hnot) (fun cs b=> hsel i oi cs b hi) (fun cs b=> hsel j oj cs b hoj) hQ hy h1;have hfree':∀k ok,ops[k]? =some ok→k≠i→(listed.setIfInBounds j true).getD k true=false→
    (∀e∈ok.after,Region.binds md e=true→e.on≠i)→oi.apart ops ok=true:=fun k ok hk hki hun hno=> by
    refine hfree k ok hk hki ?_ hno;by_cases hjk:j=k
    ·subst hjk;exact hjun
    ·rw[getD_set_ne true hjk] at hun;exact hun
   have hS2:∀w',(openB Bs ((listed.setIfInBounds i true).setIfInBounds j true)=true→S w')→(openB Bs (listed.setIfInBounds j true)=true→S w'):=fun w' h ho=> h (by rw[Array.setIfInBounds_comm _ _ (Ne.symm hji)];exact open_set ho hiB)
   refine wpOp_mono (fun a' w' h3=> ⟨hS2 w' h3.2.1,ih (listed.setIfInBounds j true) a' w' hfree' (ready_mono hr (Ne.symm hji)) h3.1 (hS2 w' h3.2.1) ?_⟩) h2;rw[Array.setIfInBounds_comm _ _ hji];exact h3.2.2
theorem bar_pure(i:Nat)(v:Value){oi:Oper}{fuel:Nat}{listed:Array Bool}{a:Act}{w:World}(hi:ops[i]? =some oi)
 (hs:Region.noSelect ops=true) (hf:Region.free md ops listed i=true) (hr:(Region.ready md ops listed).contains i=true) (hb:Bs.contains i=false)
 (hQ:∀c a w,Q (.panic c) (a.put oi.dst v) w→Q (.panic c) a w) (hwt:Region.wanted oi (yielded ops a.tmps)=true) (hrun:∀w,(execOp a.eval oi).run P w= .ok (.value v) w) (hS:openB Bs listed=true→S w)
 (h:wpAnyB P md ops Q S Bs fuel (listed.setIfInBounds i true) (a.put oi.dst v) w):wpAnyB P md ops Q S Bs (fuel+1) listed a w:=
 wpAnyB_pure hi (Region.noSelect_spec hs) hQ (by simpa using hb) fuel listed a w (Region.free_spec hi hf) (by simpa using hr) (.inl ⟨hwt,fun w _=> hrun w⟩) hS h
theorem wpAnyB_all{rs:List Nat}{fuel:Nat}{listed:Array Bool}{a:Act}{w:World}(hr:Region.ready md ops listed=rs)(hne:rs≠ [])
 (h:∀i∈rs,wpOp P ops Q i (fun a' w'=> (openB Bs (listed.setIfInBounds i true)=true→S w')∧wpAnyB P md ops Q S Bs fuel (listed.setIfInBounds i true) a' w') a w):wpAnyB P md ops Q S Bs (fuel+1) listed a w:=
 ⟨fun h0=> absurd (hr▸h0) hne,hr▸h⟩
theorem bar1{fuel:Nat}{listed:Array Bool}{a:Act}{w:World}(i:Nat)(hr:Region.ready md ops listed= [i])
 (h:wpOp P ops Q i (fun a' w'=> (openB Bs (listed.setIfInBounds i true)=true→S w')∧wpAnyB P md ops Q S Bs fuel (listed.setIfInBounds i true) a' w') a w):wpAnyB P md ops Q S Bs (fuel+1) listed a w:=
 wpAnyB_all hr (by simp) (fun j hj=> by rw[List.mem_singleton.1 hj];exact h)
theorem bar2{fuel:Nat}{listed:Array Bool}{a:Act}{w:World}(i j:Nat)(hr:Region.ready md ops listed= [i,j])
 (h1:wpOp P ops Q i (fun a' w'=> (openB Bs (listed.setIfInBounds i true)=true→S w')∧wpAnyB P md ops Q S Bs fuel (listed.setIfInBounds i true) a' w') a w)
 (h2:wpOp P ops Q j (fun a' w'=> (openB Bs (listed.setIfInBounds j true)=true→S w')∧wpAnyB P md ops Q S Bs fuel (listed.setIfInBounds j true) a' w') a w):wpAnyB P md ops Q S Bs (fuel+1) listed a w:=
 wpAnyB_all hr (by simp) (fun m hm=> by
  rcases List.mem_cons.1 hm with rfl | hm
  ·exact h1
  ·rw[List.mem_singleton.1 hm];exact h2)
theorem bar_done{listed:Array Bool}{a:Act}{w:World}(hr:Region.ready md ops listed= [])(h:Q .normal a w):
 ∀fuel,wpAnyB P md ops Q S Bs fuel listed a w
 | 0=> ⟨hr,h⟩
 | _+1=> ⟨fun _=> h,by rw[hr];simp⟩
theorem region_bar{id:Nat}{a:Act}{w:World}(S:World→Prop)(Bs:List Nat)(hm:P.follows .mixedOrders=true)
 (h:wpAnyB P .any ops Q S Bs ops.size (Array.replicate ops.size false) a w.drew):(Code.region id ops true).wp P Q a w:=
 wp_region_any hm (wpAny_of_bar _ _ _ _ h)
theorem bar_norm{a a':Act}{w:World}{n:Nat}{listed:Array Bool}(h:a=a')(hk:wpAnyB P md ops Q S Bs n listed a' w):wpAnyB P md ops Q S Bs n listed a w:=h▸hk
theorem bar_read(i:Nat)(v:Value){oi:Oper}{fuel:Nat}{listed:Array Bool}{a:Act}{w:World}(hi:ops[i]? =some oi)
 (hs:Region.noSelect ops=true) (hf:Region.free md ops listed i=true) (hr:(Region.ready md ops listed).contains i=true) (hw:waitsB md ops Bs i=true) (ho:openB Bs listed=true)
 (hQ:∀c a w,Q (.panic c) (a.put oi.dst v) w→Q (.panic c) a w) (hwt:Region.wanted oi (yielded ops a.tmps)=true) (hrun:∀w,S w→(execOp a.eval oi).run P w= .ok (.value v) w) (hS:S w)
 (h:wpAnyB P md ops Q S Bs fuel (listed.setIfInBounds i true) (a.put oi.dst v) w):wpAnyB P md ops Q S Bs (fuel+1) listed a w:=
 bar_take hi hs hf hr hw ho hQ (.inl ⟨hwt,hrun⟩) hS h
end
end Go.Proofs.YtjnjpgdoncbahaaGreatDoor
