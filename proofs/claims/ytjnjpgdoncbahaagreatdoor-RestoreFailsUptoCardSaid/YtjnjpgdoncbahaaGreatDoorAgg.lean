/- Structs and arrays by value: a load of one, a store of one, in a list of operations. Nothing of the program. Words of SHA-256 in the walk's own forms; turn. Laws for one step of a region that draws its order: a call of a function by its contract, a copy of a string into an array of the call's own. Nothing of the program. A region that draws its order, walked once in the text's order, under a law on worlds that every operation keeps: what each operation yields is the same in all worlds of that law. Nothing of the program. -/
import Derived.Test.YtjnjpgdoncbahaaGreatDoorBase
import Derived.BigQuiet
import Derived.Deep.RegionLaw
import Derived.Still
namespace Go.Proofs.YtjnjpgdoncbahaaGreatDoor
open Go.RowKit Go.Lib
variable {d:TypeDesc}{g i:Nat}{t ty:TypeId}{v:Value}{x:Operand}
def aggD:TypeDesc→Bool | .struct _ | .array _ _=> true | _=> false
section
variable {P:Program} {w:World}
theorem run_isAgg(ty:TypeId)(hu:P.underlying ty=some d)(hd:aggD d=true):(isAgg ty).run P w= .ok true w:=by unfold isAgg;rw[Sem.run_bind,run_underlying hu w];cases d <;> simp_all [aggD]
theorem run_loadVar_at(g off:Nat)(ty:TypeId)(vs:List Value)(hu:P.underlying ty=some d)(hd:aggD d=true)(hi:(P.info? ty).map (·.size)=some vs.length)
 (hc:∀j v,vs[j]? =some v→w.cell? ⟨g,off+j,none⟩=some v):(loadVar ty ⟨g,off,none⟩).run P w= .ok (.agg vs.toArray) w:=by
 have hl:(loadCells ⟨g,off,none⟩ vs.length).run P w= .ok vs.toArray w:=
  run_loadCells_list (P:=P) w ⟨g,off,none⟩ vs (fun j v hv=> by
   have hadd:(⟨g,off,none⟩:Addr).add j=⟨g,off+j,none⟩:=by unfold Addr.add;split <;> simp_all
   rw[hadd];exact hc j v hv)
 cases hq:P.info? ty with
 | none=> simp[hq] at hi
 | some i=>
  have hs:i.size=vs.length:=by simpa[hq] using hi
  simp[loadVar,Sem.run_bind,run_isAgg (w:=w) ty hu hd,sizeOf,typeInfo,hq,hs,hl]
theorem wpList_loadAgg{ops:Array Oper}{rest:List Oper}{o:Oper}{a:Act}{Q:Exit→Act→World→Prop}(hgd:o.guard=none)(ty:TypeId)(x:Operand)(ho:o.op= .load ty x)
 (g off:Nat) (hx:a.eval x= .pointer (some ⟨g,off,none⟩)) (vs:List Value) (hu:P.underlying ty=some d) (hd:aggD d=true) (hi:(P.info? ty).map (·.size)=some vs.length)
 (hc:∀j v,vs[j]? =some v→w.cell? ⟨g,off+j,none⟩=some v)
 (h:wpList P ops Q rest (a.put o.dst (.agg vs.toArray)) w):wpList P ops Q (o::rest) a w:=by
 refine wpList_plain hgd fun _ hK=> ?_;unfold Oper.wp execOp;simp only[ho,hx,Instr.loadAt,Instr.sureAddr,Sem.run_bind,Sem.run_pure,Result.andThen_ok,run_loadVar_at g off ty vs hu hd hi hc];exact hK _ _ h
def over(cs:List Value)(off:Nat)(vs:List Value):List Value:=cs.take off++(vs++cs.drop (off+vs.length))
theorem over_all(cs vs:List Value)(h:cs.length=vs.length):over cs 0 vs=vs:=by simp[over,←h]
theorem wpList_storeAgg{ops:Array Oper}{rest:List Oper}{o:Oper}{a:Act}{Q:Exit→Act→World→Prop}(hgd:o.guard=none)(ty:TypeId)(x y:Operand)(ho:o.op= .store ty x y)
 (g off:Nat) (hx:a.eval x= .pointer (some ⟨g,off,none⟩)) (vs:List Value) (hy:a.eval y= .agg vs.toArray) (hi:(P.info? ty).map (·.size)=some vs.length)
 (cs:List Value) (t:TypeId) (hg:w.heap[g]? =some (.cells cs.toArray t (0,0))) (hfit:off+vs.length≤cs.length) (h1:∀u∈vs,u.oneCell'=true)
 (h:wpList P ops Q rest (a.put o.dst undef) (w.setRow g (over cs off vs).toArray)):wpList P ops Q (o::rest) a w:=by
 refine wpList_plain hgd fun _ hK=> ?_;have hst:=run_storeCells_at P g off t vs 0 cs.toArray w hg (by simpa using hfit) h1;cases hq:P.info? ty with
 | none=> simp[hq] at hi
 | some i=>
  have hs:i.size=vs.length:=by simpa[hq] using hi
  have hadd:(⟨g,off+0,none⟩:Addr)=⟨g,off,none⟩:=rfl;unfold Oper.wp execOp;simp only[Nat.add_zero] at hst;simp[ho,hx,hy,Instr.storeAt,Instr.sureAddr,storeVar,sizeOf,typeInfo,hq,hs,Value.cells,hst];exact hK _ _ h
end
theorem blk_setRow{w:World}{cs:Array Value}{f:Nat×Nat}(h:w.heap[g]? =some (.cells cs t f))(cs':Array Value):(w.setRow g cs').heap[g]? =some (.cells cs' t f):=setRow_heap w g cs cs' t f h
theorem blk_setRow_ne{w:World}{k:Nat}{o:Obj}(h:w.heap[k]? =some o)(hne:k≠g)(cs':Array Value):(w.setRow g cs').heap[k]? =some o:=(setRow_other w g k cs' hne).trans h
theorem Upd.setRow{S:Nat→Prop}{w w1:World}(h:Upd S w w1)(hp:w.heap.size≤g∨S g)(cs:Array Value):Upd S w (w1.setRow g cs):=
 ⟨h.os,h.tape,h.output,by have:=h.size;simp;omega,fun k hk hn=> by rw[setRow_other w1 g k cs (fun e=> by subst e;exact hp.elim (fun h1=> by omega) hn)];exact h.block k hk hn⟩
theorem setRow_alloc(w:World)(z cs:Array Value)(t:TypeId)(f:Nat×Nat):(w.alloc (.cells z t f)).setRow w.heap.size cs=w.alloc (.cells cs t f):=by
 have e:((w.heap.push (.cells z t f)).modify w.heap.size fun | .cells _ elem frozen=> .cells cs elem frozen | o=> o)=w.heap.push (.cells cs t f):=by
  apply Array.ext
  ·simp
  ·intro i h1 h2;simp only[Array.getElem_modify,Array.getElem_push];by_cases hi:i < w.heap.size
   ·simp[hi,Nat.ne_of_gt hi]
   ·have:w.heap.size=i:=by simp at h1;omega
    simp[this]
 show {w with heap:=_}=({w with heap:=_}:World);congr 1
def turnI(x:Int)(n:Nat):Int:=bits .or .u32 (x / 2 ^ n) (x*2 ^ (32 - n) % 4294967296)
theorem turn_any(w:World)(x:Int)(n:Nat)(hn:n≤32):
 Calls Tryz.prog 304 #[.int .u32 x,.int .i64 n] w fun e w'=> e= .returned (.int .u32 (turnI x n))∧∃m,w'=w.drewN m:=by
 have h0:(0:Int)≤n:=by omega
 have h1:(n:Int)≤32:=by omega
 have h2:(0:Int)≤32 - n:=by omega
 have h3:(32:Int) - n≤32:=by omega
 have h4:((32:Int) - n).toNat=32 - n:=by omega
 go_enter Tryz.func304,Tryz.ntmps304;go_wp2_with fail;go_quiet (fail);go_wp2_with fail;go_ret;exact ⟨rfl,_,rfl⟩
theorem turn_at(w:World)(x:Int)(n:Nat)(hn:n≤32)(k:Nat):
 Calls Tryz.prog 304 #[.int .u32 x,.int .i64 n] (w.drewN k) fun e w'=> e= .returned (.int .u32 (turnI x n))∧∃m,w'=w.drewN m:=Calls.quiet_of (turn_any _ x n hn)
theorem turn7(w:World)(x:Int)(k:Nat):Calls Tryz.prog 304 #[.int .u32 x,.int .i64 7] (w.drewN k) fun e w'=> e= .returned (.int .u32 (turnI x 7))∧∃m,w'=w.drewN m:=turn_at w x 7 (by omega) k
theorem turn18(w:World)(x:Int)(k:Nat):Calls Tryz.prog 304 #[.int .u32 x,.int .i64 18] (w.drewN k) fun e w'=> e= .returned (.int .u32 (turnI x 18))∧∃m,w'=w.drewN m:=turn_at w x 18 (by omega) k
theorem turn17(w:World)(x:Int)(k:Nat):Calls Tryz.prog 304 #[.int .u32 x,.int .i64 17] (w.drewN k) fun e w'=> e= .returned (.int .u32 (turnI x 17))∧∃m,w'=w.drewN m:=turn_at w x 17 (by omega) k
theorem turn19(w:World)(x:Int)(k:Nat):Calls Tryz.prog 304 #[.int .u32 x,.int .i64 19] (w.drewN k) fun e w'=> e= .returned (.int .u32 (turnI x 19))∧∃m,w'=w.drewN m:=turn_at w x 19 (by omega) k
theorem turn6(w:World)(x:Int)(k:Nat):Calls Tryz.prog 304 #[.int .u32 x,.int .i64 6] (w.drewN k) fun e w'=> e= .returned (.int .u32 (turnI x 6))∧∃m,w'=w.drewN m:=turn_at w x 6 (by omega) k
theorem turn11(w:World)(x:Int)(k:Nat):Calls Tryz.prog 304 #[.int .u32 x,.int .i64 11] (w.drewN k) fun e w'=> e= .returned (.int .u32 (turnI x 11))∧∃m,w'=w.drewN m:=turn_at w x 11 (by omega) k
theorem turn25(w:World)(x:Int)(k:Nat):Calls Tryz.prog 304 #[.int .u32 x,.int .i64 25] (w.drewN k) fun e w'=> e= .returned (.int .u32 (turnI x 25))∧∃m,w'=w.drewN m:=turn_at w x 25 (by omega) k
theorem turn2(w:World)(x:Int)(k:Nat):Calls Tryz.prog 304 #[.int .u32 x,.int .i64 2] (w.drewN k) fun e w'=> e= .returned (.int .u32 (turnI x 2))∧∃m,w'=w.drewN m:=turn_at w x 2 (by omega) k
theorem turn13(w:World)(x:Int)(k:Nat):Calls Tryz.prog 304 #[.int .u32 x,.int .i64 13] (w.drewN k) fun e w'=> e= .returned (.int .u32 (turnI x 13))∧∃m,w'=w.drewN m:=turn_at w x 13 (by omega) k
theorem turn22(w:World)(x:Int)(k:Nat):Calls Tryz.prog 304 #[.int .u32 x,.int .i64 22] (w.drewN k) fun e w'=> e= .returned (.int .u32 (turnI x 22))∧∃m,w'=w.drewN m:=turn_at w x 22 (by omega) k
section
variable {P:Program}
def hasBody(P:Program)(f:FuncId):Bool:=match P.funcs[f]? with | some fn=> fn.body.isSome && !(fn.name== "runtime.NumGoroutine") | none=> false
theorem run_callFunc_body(w:World)(f:FuncId)(args:Array Value)(h:hasBody P f=true):(callFunc f args).run P w= .ok (.enter f args) w:=by
 unfold hasBody at h;cases hf:P.funcs[f]? with
 | none=> rw[hf] at h;cases h
 | some fn=>
  rw[hf] at h;simp only[Bool.and_eq_true,Bool.not_eq_true'] at h;obtain ⟨hb,hn⟩:=h;have hb':fn.body≠none:=by intro e;rw[e] at hb;cases hb
  have hn':fn.name≠ "runtime.NumGoroutine" :=by simpa using hn
  simp[callFunc,hf,hn',hb']
theorem step_call{ops:Array Oper}{o:Oper}{a:Act}{w:World}{K:Act→World→Prop}{Q:Exit→Act→World→Prop}{E:Prop}(hw:Region.wanted o (yielded ops a.tmps)=true)(f:FuncId)(args:List Operand)(ts:Array TypeId)
 (ho:o.op= .call {callee:= .value (.func f),args:=args.toArray,argTypes:=ts}) (hb:hasBody P f=true) (vals:List Value) (hv:args.map a.eval=vals) {R:Value→World→Prop}
 (C:Calls P f vals.toArray w fun e w'=> ∃v,e= .returned v∧R v w') (h:∀v w',R v w'→K (a.put o.dst v) w'):
 if Region.wanted o (yielded ops a.tmps)=true then Oper.wp P o a w K Q else E:=by
 rw[if_pos hw];subst hv;unfold Oper.wp;have hr:(execOp a.eval o).run P w= .ok (.enter f (args.map a.eval).toArray) w:=by simp[execOp,ho,resolve,Deferred.ofValue,Act.eval,invoke];exact run_callFunc_body w f _ hb
 rw[hr];exact C.mono fun e w' ⟨v,he,hR⟩=> by subst he;exact h v w' hR
end
section
variable {P:Program} {ops:Array Oper} {md:Region.Mode} {I:World→Prop}
def InvRes(P:Program)(I:World→Prop)(v:Value):Result Next→Prop
 | .ok (.value u) w'=> u=v∧I w'
 | .ok .skip w'=> v=undef∧I w'
 | .ok (.enter f args) w'=> Calls P f args w' fun e w''=> e= .returned v∧I w''
 | _=> False
def InvYields(P:Program)(ops:Array Oper)(I:World→Prop)(o:Oper)(v:Value)(a:Act):Prop:=
 (Region.wanted o (yielded ops a.tmps)=true∧∀w,I w→InvRes P I v ((execOp a.eval o).run P w))∨(Region.wanted o (yielded ops a.tmps)=false∧v=undef)
def wpInv(P:Program)(ops:Array Oper)(I:World→Prop)(Q:Act→Prop):List Oper→Act→Prop
 | [],a=> Q a
 | o::rest,a=> ∃v,InvYields P ops I o v a∧wpInv P ops I Q rest (a.put o.dst v)
def anyInv(P:Program)(md:Region.Mode)(ops:Array Oper)(I:World→Prop)(Q:Act→Prop):Nat→Array Bool→Act→Prop
 | 0,listed,a=> Region.ready md ops listed= []∧Q a
 | n+1,listed,a=> (Region.ready md ops listed= []→Q a)∧
  ∀i∈Region.ready md ops listed,∃o v,ops[i]? =some o∧InvYields P ops I o v a∧anyInv P md ops I Q n (listed.setIfInBounds i true) (a.put o.dst v)
theorem InvYields.of_put{o:Oper}{a:Act}{d:Option Tmp}{u:Value}(hs:∀cs b,o.op≠ .select cs b)(h:∀t,d=some t→t∉o.looksAt ops):InvYields P ops I o v (a.put d u)↔InvYields P ops I o v a:=by unfold InvYields;rw[execOp_put o hs a d u h,wanted_put o a d u h]
theorem InvYields.wp{o:Oper}{a:Act}{w:World}(hi:ops[i]? =some o)(hy:InvYields P ops I o v a)(hw:I w){K:Act→World→Prop}{Q:Exit→Act→World→Prop}(h:∀w',I w'→K (a.put o.dst v) w'):wpOp P ops Q i K a w:=by
 unfold wpOp;simp only[hi];rcases hy with ⟨h1,h2⟩ | ⟨h1,rfl⟩
 ·rw[if_pos h1];left;have:=h2 w hw;unfold Oper.wp;generalize (execOp a.eval o).run P w=r at this⊢;cases r with
  | ok n w'=>
   cases n <;> simp only[InvRes] at this <;> simp only[Oper.upon]
   case value u=> obtain ⟨rfl,h3⟩:=this;exact h _ h3
   case skip=> obtain ⟨rfl,h3⟩:=this;exact h _ h3
   case enter f args=> exact this.mono fun e w'' ⟨he,h3⟩=> by subst he;exact h _ h3
  | halt x w'=> simp only[InvRes] at this
 ·rw[h1];exact h _ hw
theorem anyInv_sound{Q:Act→Prop}{Q':Exit→Act→World→Prop}(hQ:∀a w,Q a→I w→Q' .normal a w):∀(n:Nat) (listed:Array Bool) (a:Act),anyInv P md ops I Q n listed a→∀w,I w→wpAny P md ops Q' n listed a w
 | 0,_,_,h,w,hw=> ⟨h.1,hQ _ w h.2 hw⟩
 | n+1,_,_,h,w,hw=> ⟨fun h0=> hQ _ w (h.1 h0) hw,fun i hi=> by obtain ⟨o,v,ho,hy,hk⟩:=h.2 i hi;exact hy.wp ho hw fun w' hw'=> anyInv_sound hQ n _ _ hk w' hw'⟩
theorem anyInv_first{Q:Act→Prop}{oi:Oper}(hi:ops[i]? =some oi)(hsel:∀(j:Nat) (o:Oper) cs b,ops[j]? =some o→o.op≠ .select cs b):
 ∀(n:Nat) (listed:Array Bool) (a:Act),
  (∀j oj,ops[j]? =some oj→j≠i→listed.getD j true=false→(∀e∈oj.after,Region.binds md e=true→e.on≠i)→oi.apart ops oj=true)→
  i∈Region.ready md ops listed→InvYields P ops I oi v a→anyInv P md ops I Q n (listed.setIfInBounds i true) (a.put oi.dst v)→anyInv P md ops I Q (n+1) listed a:=by
 intro n;induction n with
 | zero=>
  intro listed a _ hr hy H;refine ⟨fun h=> (by rw[h] at hr;cases hr),fun j hj=> ?_⟩;by_cases hji:j=i
  ·subst hji;exact ⟨oi,v,hi,hy,H⟩
  ·have:=ready_mono hj hji;rw[H.1] at this;cases this
 | succ n ih=>
  intro listed a hfree hr hy H;refine ⟨fun h=> (by rw[h] at hr;cases hr),fun j hj=> ?_⟩;by_cases hji:j=i
  ·subst hji;exact ⟨oi,v,hi,hy,H⟩
  ·obtain ⟨oj,u,hoj,hyj,hkj⟩:=H.2 j (ready_mono hj hji);obtain ⟨hjun,oj',hoj',hall⟩:=mem_ready.1 hj;obtain rfl:oj'=oj:=Option.some.inj (hoj'.symm.trans hoj);have hnot:∀e∈oj'.after,Region.binds md e=true→e.on≠i:=fun e he hb heq=> by
    have h1:=hall e he hb;have h0:=(mem_ready.1 hr).1;rw[heq] at h1;rcases Nat.lt_or_ge i listed.size with h' | h'
    ·simp[h'] at h0 h1;rw[h0] at h1;cases h1
    ·simp[Array.getElem?_eq_none h'] at h1
   obtain ⟨a1,a2,a3⟩:=Oper.apart_spec (hfree j oj' hoj hji hjun hnot);have hfree':∀k ok,ops[k]? =some ok→k≠i→(listed.setIfInBounds j true).getD k true=false→
    (∀e∈ok.after,Region.binds md e=true→e.on≠i)→oi.apart ops ok=true:=fun k ok hk hki hun hno=> by
    refine hfree k ok hk hki ?_ hno;by_cases hjk:j=k
    ·subst hjk;exact hjun
    ·rw[getD_set_ne true hjk] at hun;exact hun
   refine ⟨oj',u,hoj,(InvYields.of_put (hsel j oj' · · hoj) a1).1 hyj,ih (listed.setIfInBounds j true) (a.put oj'.dst u) hfree' (ready_mono hr (Ne.symm hji)) ((InvYields.of_put (hsel i oi · · hi) a3).2 hy) ?_⟩;rw[Array.setIfInBounds_comm _ _ hji,Act.put_comm a u v (fun d hd e=> a2 d e hd)];exact hkj
theorem anyInv_lex{Q:Act→Prop}(hs:Region.noSelect ops=true):∀(l:List Oper) (k:Nat) (listed:Array Bool) (a:Act),(∀j,l[j]? =ops[k+j]?)→
 Region.lexFrom md ops l.length k listed=true→wpInv P ops I Q l a→anyInv P md ops I Q l.length listed a
 | [],_,_,_,_,hB,h=> ⟨by simpa[Region.lexFrom] using hB,h⟩
 | o::l,k,listed,a,hl,hB,h=> by
  have h0:ops[k]? =some o:=by simpa using (hl 0).symm
  simp only[List.length_cons,Region.lexFrom,Bool.and_eq_true] at hB;obtain ⟨⟨hr,hf⟩,hB'⟩:=hB;obtain ⟨v,hy,hK⟩:=h;exact anyInv_first h0 (Region.noSelect_spec hs) l.length listed a (Region.free_spec h0 hf) (by simpa using hr) hy
   (anyInv_lex hs l (k+1) _ _ (fun j=> by have:=hl (j+1);simpa[Nat.add_assoc,Nat.add_comm 1 j] using this) hB' hK)
theorem region_inv{id:Nat}{Q:Exit→Act→World→Prop}{a:Act}{w:World}{l:List Oper}(I:World→Prop)(hm:P.follows .mixedOrders=true)(hB:Region.lexB .any l.toArray=true)(hI:I w.drew)
 (h:wpInv P l.toArray I (fun a'=> ∀w',I w'→Q .normal a' w') l a):(Code.region id l.toArray true).wp P Q a w:=by
 simp only[Region.lexB,Bool.and_eq_true] at hB;refine wp_region_any hm (anyInv_sound (Q:=fun a'=> ∀w',I w'→Q .normal a' w') (fun a w h hw=> h w hw) _ _ _ ?_ _ hI);have:=anyInv_lex (md:= .any) hB.1 l 0 (Array.replicate l.toArray.size false) a (by simp) (by simpa using hB.2) h;simpa using this
variable {Q:Act→Prop} {o:Oper} {rest:List Oper} {a:Act}
theorem inv_pure(hw:Region.wanted o (yielded ops a.tmps)=true)(h:∀w,(execOp a.eval o).run P w= .ok (.value v) w)(hk:wpInv P ops I Q rest (a.put o.dst v)):wpInv P ops I Q (o::rest) a:=
 ⟨v,.inl ⟨hw,fun w hI=> by rw[h w];exact ⟨rfl,hI⟩⟩,hk⟩
theorem inv_read(hw:Region.wanted o (yielded ops a.tmps)=true)(h:∀w,I w→(execOp a.eval o).run P w= .ok (.value v) w)(hk:wpInv P ops I Q rest (a.put o.dst v)):wpInv P ops I Q (o::rest) a:=
 ⟨v,.inl ⟨hw,fun w hI=> by rw[h w hI];exact ⟨rfl,hI⟩⟩,hk⟩
theorem inv_call(hw:Region.wanted o (yielded ops a.tmps)=true)(f:FuncId)(args:List Operand)(ts:Array TypeId)
 (ho:o.op= .call {callee:= .value (.func f),args:=args.toArray,argTypes:=ts}) (hb:hasBody P f=true) (vals:List Value) (hv:args.map a.eval=vals)
 (C:∀w,I w→Calls P f vals.toArray w fun e w'=> e= .returned v∧I w') (hk:wpInv P ops I Q rest (a.put o.dst v)):wpInv P ops I Q (o::rest) a:=by
 refine ⟨v,.inl ⟨hw,fun w hI=> ?_⟩,hk⟩;subst hv;have hr:(execOp a.eval o).run P w= .ok (.enter f (args.map a.eval).toArray) w:=by simp[execOp,ho,resolve,Deferred.ofValue,Act.eval,invoke];exact run_callFunc_body w f _ hb
 rw[hr];exact C w hI
theorem inv_move(hw:Region.wanted o (yielded ops a.tmps)=true)(ho:o.op= .move x)(v:Value)(hv:a.eval x=v)(hk:wpInv P ops I Q rest (a.put o.dst v)):wpInv P ops I Q (o::rest) a:=by subst hv;exact inv_pure hw (fun w=> by simp[execOp,ho]) hk
theorem inv_loadAgg(hw:Region.wanted o (yielded ops a.tmps)=true)(ty:TypeId)(x:Operand)(ho:o.op= .load ty x)
 (g off:Nat) (hx:a.eval x= .pointer (some ⟨g,off,none⟩)) (vs:List Value) (hu:P.underlying ty=some d) (hd:aggD d=true) (hi:(P.info? ty).map (·.size)=some vs.length)
 (hc:∀w,I w→∀j v,vs[j]? =some v→w.cell? ⟨g,off+j,none⟩=some v) (hk:wpInv P ops I Q rest (a.put o.dst (.agg vs.toArray))):wpInv P ops I Q (o::rest) a:=
 inv_read hw (fun w hI=> by simp only[execOp,ho,hx,Instr.loadAt,Instr.sureAddr,Sem.run_bind,Sem.run_pure,Result.andThen_ok,run_loadVar_at g off ty vs hu hd hi (hc w hI)]) hk
theorem inv_not(hw:Region.wanted o (yielded ops a.tmps)=true)(ho:o.op= .unOp .not ty x)(b:Bool)(hx:a.eval x= .bool b)(hk:wpInv P ops I Q rest (a.put o.dst (.bool !b))):wpInv P ops I Q (o::rest) a:=
 inv_pure hw (fun w=> by simp[execOp,ho,hx,Op.unary]) hk
theorem inv_indexSlice{ix:Operand}(hw:Region.wanted o (yielded ops a.tmps)=true)(ho:o.op= .indexAddr t x ix)(g off len cap k sz:Nat)(e:TypeId)(hx:a.eval x= .slice (some ⟨g,off,none⟩) len cap)(hi:a.eval ix= .int .i64 k)(hk:k < len)
 (hu:P.underlying t=some (.slice e)) (hs:(P.info? e).map (·.size)=some sz) (h:wpInv P ops I Q rest (a.put o.dst (.pointer (some ⟨g,off+k*sz,none⟩)))):wpInv P ops I Q (o::rest) a:=by
 refine inv_pure hw (fun w=> ?_) h;have hadd:(⟨g,off,none⟩:Addr).add (k*sz)=⟨g,off+k*sz,none⟩:=by unfold Addr.add;split <;> simp_all
 cases hq:P.info? e with
 | none=> simp[hq] at hs
 | some i=>
  have his:i.size=sz:=by simpa[hq] using hs
  have hk2:(0:Int)≤(k:Int)∧(k:Int) < len:=by omega
  simp[execOp,ho,hx,hi,Instr.indexAt,run_underlying hu,asIntOf,sizeOf,typeInfo,hq,his,hk2,hk,hadd]
theorem inv_load1(hw:Region.wanted o (yielded ops a.tmps)=true)(ho:o.op= .load ty x)(p:Addr)(v:Value)(hx:a.eval x= .pointer (some p))(hu:P.underlying ty=some d)(hd:aggD d=false)
 (hc:∀w,I w→w.cell? p=some v) (h:wpInv P ops I Q rest (a.put o.dst v)):wpInv P ops I Q (o::rest) a:=by
 refine inv_read hw (fun w hI=> ?_) h;have hc:=hc w hI;have hagg:(isAgg ty).run P w= .ok false w:=by unfold isAgg;rw[Sem.run_bind,run_underlying hu w];cases d <;> simp_all [aggD]
 simp[execOp,ho,hx,Instr.loadAt,Instr.sureAddr,loadVar,Sem.run_bind,hagg,hc]
theorem inv_norm{l:List Oper}{a':Act}(h:a=a')(hk:wpInv P ops I Q l a'):wpInv P ops I Q l a:=h▸hk
end
end Go.Proofs.YtjnjpgdoncbahaaGreatDoor
