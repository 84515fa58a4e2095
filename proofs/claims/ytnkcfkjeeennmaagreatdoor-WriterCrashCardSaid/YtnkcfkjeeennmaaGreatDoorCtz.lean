/- bits.TrailingZeros64 of a number not zero; of a count's complement it is the number of low ones. From a state within a region that draws its order: operations that keep a law on worlds and that alone may come up until each has, walked once in one order; then the rest. Nothing of the program. Steps of a region that draws its order, one branch for each order: for regions where an operation makes a block whose number hangs on the order. Nothing of the program. What DecodeQuery holds when a leaf is appended; the steps that region 24 wants. clear of a part of an own row. Nothing of the program. Slices of slices, as operations. Nothing of the program. From a state within a region that draws its order: operations that read, and ONE (p) that makes something out of nothing they read, walked once in one order; then the rest. Nothing of the program. emit.Add by contract. What a growth holds in memory: a builder, edges, tiles that are whole, what was touched. Plain lemmas on memory. A region that draws its order: operations that read may be taken first, under a law on worlds that is to hold until one of some last operations (the bar) has come up; each of those waits for the reading ones. (The library's wpAnyH with an end.) Nothing of the program. strings.Builder: copyCheck, WriteByte, WriteString, Write by contracts (the library's contracts, turned to this program's bodies). -/
import Derived.Test.YtnkcfkjeeennmaaGreatDoorTree
import Derived.Test.YtnkcfkjeeennmaaGreatDoorShaU
import Derived.Shelf.Spec.TrailingZeros
import Derived.Test.YtnkcfkjeeennmaaGreatDoorHRow
import Derived.Deep.CutRange
import Derived.OrdersHeld
import Derived.Test.YtnkcfkjeeennmaaGreatDoorAgg
import Derived.Test.YtnkcfkjeeennmaaGreatDoorApp
import Derived.Shelf.Strings.Builder1
namespace Go.Proofs.YtnkcfkjeeennmaaGreatDoor
open Go.RowKit Go.Lib
set_option maxRecDepth 100000
set_option maxHeartbeats 8000000
variable {A:Option Addr}{ix x:Operand}{y:HB}{α:Type}
theorem ctz_ones:∀(f n:Nat),n+1 < 2 ^ f→Lib.ctzFrom f (2 ^ f - 1 - n)=ones n:=by
 intro f;induction f with
 | zero=> intro n h;simp at h
 | succ f ih=>
  intro n h;have e:2 ^ (f+1)=2*2 ^ f:=by rw[Nat.pow_succ];omega
  unfold Lib.ctzFrom;by_cases ho:n % 2=1
  ·rw[if_neg (by omega),ones_odd ho,show (2 ^ (f+1) - 1 - n) / 2=2 ^ f - 1 - n / 2 by omega,ih (n / 2) (by omega)];omega
  ·rw[if_pos (by omega),ones_even ho]
theorem ctz_compl(n:Nat)(h:n+1 < 18446744073709551616):Lib.ctz 64 (18446744073709551615 - n)=ones n:=by unfold Lib.ctz;rw[if_neg (by omega)];exact ctz_ones 64 n h
theorem ctz_core(x k idx:Nat)(w:World)(hx0:((x:Int)==0)=false)
 (key:IntKind.u64.wrap (bits BinOp.and IntKind.u64 (x:Int) (IntKind.u64.wrap (-(x:Int)))*285870213051353865) / 288230376151711744=(idx:Int))
 (hi:idx < 64) (hk:k < 64) (hcell:w.cell? ⟨20,idx,none⟩=some (.int .u8 k)):
 Calls Tryz.prog 145 #[.int .u64 x] w fun e w'=> e= .returned (.int .i64 k)∧w=w':=by
 have hii:((idx:Nat):Int) < 64:=by omega
 have hkk:(k:Int) < 64:=by omega
 go_enter Tryz.func145,Tryz.ntmps145;go_wp2_with (simp only[key]);go_ret;exact ⟨rfl,rfl⟩
theorem ctz_any(x:Nat)(hx0:x≠0)(hx:x < 18446744073709551616)(w:World)(hT:TabAt 20 Lib.deBruijn64tab w):
 Calls Tryz.prog 145 #[.int .u64 x] w fun e w'=> e= .returned (.int .i64 (Lib.ctz 64 x))∧w=w':=by
 obtain ⟨hlow,hk⟩:=Lib.lowest_bit 64 x hx0 hx;obtain ⟨hi,htab⟩:=Lib.deBruijn64_at _ hk;have hcell:=hT _ hi;rw[htab] at hcell;exact ctz_core x _ _ w (by simp;omega) (tz64_key x _ hx hx0 hlow) hi hk hcell
theorem tabAt_ext{g:Nat}{tab:List Nat}{w w':World}(h:TabAt g tab w)(u:Ext w w'):TabAt g tab w':=fun j hj=> Ext.cellv u (h j hj)
section
variable {P:Program} {ops:Array Oper} {md:Region.Mode} {I:World→Prop}
def onlyB(md:Region.Mode)(ops:Array Oper)(ks:List Nat):Nat→Array Bool→Bool
 | 0,listed=> ks.all fun k=> listed.getD k false
 | m+1,listed=> !(Region.ready md ops listed).isEmpty && (Region.ready md ops listed).all fun i=> ks.contains i && onlyB md ops ks m (listed.setIfInBounds i true)
def seqB(md:Region.Mode)(ops:Array Oper):List Nat→Array Bool→Bool
 | [],_=> true
 | k::ks,listed=> (Region.ready md ops listed).contains k && Region.free md ops listed k && seqB md ops ks (listed.setIfInBounds k true)
def anySeq(P:Program)(md:Region.Mode)(ops:Array Oper)(I:World→Prop)(K:Array Bool→Act→Prop):Nat→Array Bool→Act→Prop
 | 0,listed,a=> K listed a
 | m+1,listed,a=> ∀i∈Region.ready md ops listed,∃o v,ops[i]? =some o∧InvYields P ops I o v a∧anySeq P md ops I K m (listed.setIfInBounds i true) (a.put o.dst v)
theorem onlyB_succ{ks:List Nat}{m:Nat}{listed:Array Bool}(h:onlyB md ops ks (m+1) listed=true):Region.ready md ops listed≠ []∧∀i∈Region.ready md ops listed,i∈ks∧onlyB md ops ks m (listed.setIfInBounds i true)=true:=by unfold onlyB at h;simp only[Bool.and_eq_true,Bool.not_eq_true',List.isEmpty_eq_false_iff,List.all_eq_true,List.contains_iff_mem] at h;exact h
theorem anySeq_sound{K:Array Bool→Act→Prop}{Q:Exit→Act→World→Prop}{ks:List Nat}{t:Nat}(hK:∀listed a w,K listed a→I w→wpAny P md ops Q t listed a w):
 ∀(m:Nat) (listed:Array Bool) (a:Act),onlyB md ops ks m listed=true→anySeq P md ops I K m listed a→∀w,I w→wpAny P md ops Q (m+t) listed a w
 | 0,listed,a,_,h,w,hw=> by rw[Nat.zero_add];exact hK listed a w h hw
 | m+1,listed,a,ho,h,w,hw=> by obtain ⟨h1,h2⟩:=onlyB_succ ho;rw[show m+1+t=m+t+1 by omega];refine ⟨fun e=> absurd e h1,fun i hi=> ?_⟩;obtain ⟨o,v,hio,hy,hk⟩:=h i hi;exact hy.wp hio hw fun w' hw'=> anySeq_sound hK m _ _ (h2 i hi).2 hk w' hw'
theorem anySeq_first{K:Array Bool→Act→Prop}{i:Nat}{oi:Oper}{v:Value}{ks:List Nat}(hi:ops[i]? =some oi)(hsel:∀(j:Nat) (o:Oper) cs b,ops[j]? =some o→o.op≠ .select cs b):
 ∀(m:Nat) (listed:Array Bool) (a:Act),onlyB md ops ks (m+1) listed=true→
  (∀j oj,ops[j]? =some oj→j≠i→listed.getD j true=false→(∀e∈oj.after,Region.binds md e=true→e.on≠i)→oi.apart ops oj=true)→
  i∈Region.ready md ops listed→InvYields P ops I oi v a→anySeq P md ops I K m (listed.setIfInBounds i true) (a.put oi.dst v)→anySeq P md ops I K (m+1) listed a:=by
 intro m;induction m with
 | zero=>
  intro listed a ho _ hr hy H j hj;by_cases hji:j=i
  ·subst hji;exact ⟨oi,v,hi,hy,H⟩
  ·exfalso;obtain ⟨_,h2⟩:=onlyB_succ ho;have h3:=(h2 i hr).2;unfold onlyB at h3;have h4:=List.all_eq_true.1 h3 j (h2 j hj).1;rw[getD_set_ne false (Ne.symm hji)] at h4;have h5:=(mem_ready.1 hj).1;rcases Nat.lt_or_ge j listed.size with h' | h'
   ·simp[h'] at h4 h5;rw[h4] at h5;cases h5
   ·simp[Array.getElem?_eq_none h'] at h4
 | succ m ih=>
  intro listed a ho hfree hr hy H j hj;by_cases hji:j=i
  ·subst hji;exact ⟨oi,v,hi,hy,H⟩
  ·obtain ⟨oj,u,hoj,hyj,hkj⟩:=H j (ready_mono hj hji);obtain ⟨hjun,oj',hoj',hall⟩:=mem_ready.1 hj;obtain rfl:oj'=oj:=Option.some.inj (hoj'.symm.trans hoj);have hnot:∀e∈oj'.after,Region.binds md e=true→e.on≠i:=fun e he hb heq=> by
    have h1:=hall e he hb;have h0:=(mem_ready.1 hr).1;rw[heq] at h1;rcases Nat.lt_or_ge i listed.size with h' | h'
    ·simp[h'] at h0 h1;rw[h0] at h1;cases h1
    ·simp[Array.getElem?_eq_none h'] at h1
   obtain ⟨a1,a2,a3⟩:=Oper.apart_spec (hfree j oj' hoj hji hjun hnot);have hfree':∀k ok,ops[k]? =some ok→k≠i→(listed.setIfInBounds j true).getD k true=false→
    (∀e∈ok.after,Region.binds md e=true→e.on≠i)→oi.apart ops ok=true:=fun k ok hk hki hun hno=> by
    refine hfree k ok hk hki ?_ hno;by_cases hjk:j=k
    ·subst hjk;exact hjun
    ·rw[getD_set_ne true hjk] at hun;exact hun
   refine ⟨oj',u,hoj,(InvYields.of_put (hsel j oj' · · hoj) a1).1 hyj,ih (listed.setIfInBounds j true) (a.put oj'.dst u) ((onlyB_succ ho).2 j hj).2 hfree' (ready_mono hr (Ne.symm hji)) ((InvYields.of_put (hsel i oi · · hi) a3).2 hy) ?_⟩;rw[Array.setIfInBounds_comm _ _ hji,Act.put_comm a u v (fun d hd e=> a2 d e hd)];exact hkj
theorem anySeq_lex{Q:Act→Prop}{ks0:List Nat}(hs:Region.noSelect ops=true):∀(ks:List Nat) (l:List Oper) (listed:Array Bool) (a:Act),(ks.map fun k=> ops[k]?)=l.map some→
 seqB md ops ks listed=true→onlyB md ops ks0 ks.length listed=true→wpInv P ops I Q l a→anySeq P md ops I (fun L a'=> L=ks.foldl (fun L k=> L.setIfInBounds k true) listed∧Q a') ks.length listed a
 | [],[],_,_,_,_,_,h=> ⟨rfl,h⟩
 | [],o::l,_,_,hl,_,_,_=> by simp at hl
 | k::ks,[],_,_,hl,_,_,_=> by simp at hl
 | k::ks,o::l,listed,a,hl,hB,ho,h=> by
  simp only[List.map_cons,List.cons.injEq] at hl;simp only[seqB,Bool.and_eq_true,List.contains_iff_mem] at hB;obtain ⟨⟨hr,hf⟩,hB'⟩:=hB;obtain ⟨v,hy,hK⟩:=h;exact anySeq_first hl.1 (Region.noSelect_spec hs) ks.length listed a ho (Region.free_spec hl.1 hf) hr hy
   (anySeq_lex hs ks l _ _ hl.2 hB' ((onlyB_succ ho).2 k hr).2 hK)
theorem any_seq{Q:Exit→Act→World→Prop}{a:Act}{w:World}{listed:Array Bool}{t:Nat}(ks:List Nat)(l:List Oper)(I:World→Prop)(hns:Region.noSelect ops=true)(hl:(ks.map fun k=> ops[k]?)=l.map some)
 (hs:seqB md ops ks listed=true) (ho:onlyB md ops ks ks.length listed=true) (hI:I w)
 (h:wpInv P ops I (fun a'=> ∀w',I w'→wpAny P md ops Q t (ks.foldl (fun L k=> L.setIfInBounds k true) listed) a' w') l a):wpAny P md ops Q (ks.length+t) listed a w:=
 anySeq_sound (ks:=ks) (fun L a' w' hk hw'=> by obtain ⟨rfl,hq⟩:=hk;exact hq w' hw') ks.length listed a ho (anySeq_lex hns ks l listed a hl hs ho h) w hI
end
section
variable {P:Program} {ops:Array Oper} {Q:Exit→Act→World→Prop} {n:Nat} {listed:Array Bool} {a:Act} {w:World}
theorem any1(i:Nat)(hr:Region.ready .any ops listed= [i])(h:wpOp P ops Q i (wpAny P .any ops Q n (listed.setIfInBounds i true)) a w):wpAny P .any ops Q (n+1) listed a w:=
 wpAny_all hr (by simp) (fun j hj=> by rw[List.mem_singleton.1 hj];exact h)
variable {i:Nat} {o:Oper} {K:Act→World→Prop}
theorem op_val{v:Value}{w':World}(hi:ops[i]? =some o)(hw:Region.wanted o (yielded ops a.tmps)=true)(hr:(execOp a.eval o).run P w= .ok (.value v) w')(h:K (a.put o.dst v) w'):wpOp P ops Q i K a w:=by unfold wpOp;simp only[hi];rw[if_pos hw];left;unfold Oper.wp;rw[hr];exact h
theorem op_callf(hi:ops[i]? =some o)(hw:Region.wanted o (yielded ops a.tmps)=true)(f:FuncId)(args:List Operand)(ts:Array TypeId)
 (ho:o.op= .call {callee:= .value (.func f),args:=args.toArray,argTypes:=ts}) (hb:hasBody P f=true) (vals:List Value) (hv:args.map a.eval=vals) {R:Value→World→Prop}
 (C:Calls P f vals.toArray w fun e w'=> ∃v,e= .returned v∧R v w') (h:∀v w',R v w'→K (a.put o.dst v) w'):wpOp P ops Q i K a w:=by
 unfold wpOp;simp only[hi];rw[if_pos hw];left;have:=step_call (Q:=Q) (E:=True) hw f args ts ho hb vals hv C h;rwa [if_pos hw] at this
theorem op_storeAgg(hi:ops[i]? =some o)(hw:Region.wanted o (yielded ops a.tmps)=true)(ty:TypeId)(x y:Operand)(ho:o.op= .store ty x y)
 (g:Nat) (hx:a.eval x= .pointer (some ⟨g,0,none⟩)) (vs:List Value) (hy:a.eval y= .agg vs.toArray) (hs:(P.info? ty).map (·.size)=some vs.length)
 (cs:List Value) (t:TypeId) (hg:w.heap[g]? =some (.cells cs.toArray t (0,0))) (hfit:cs.length=vs.length) (h1:∀u∈vs,u.oneCell'=true)
 (h:K (a.put o.dst undef) (w.setRow g vs.toArray)):wpOp P ops Q i K a w:=by
 unfold wpOp;simp only[hi];rw[if_pos hw];left;have hst:=run_storeCells_at P g 0 t vs 0 cs.toArray w hg (by simp;omega) h1;cases hq:P.info? ty with
 | none=> simp[hq] at hs
 | some it=>
  have hss:it.size=vs.length:=by simpa[hq] using hs
  have hov:vs++List.drop vs.length cs=vs:=by rw[List.drop_eq_nil_of_le (by omega),List.append_nil]
  simp only[Nat.add_zero,Nat.zero_add] at hst;unfold Oper.wp execOp;simp[ho,hx,hy,Instr.storeAt,Instr.sureAddr,storeVar,sizeOf,typeInfo,hq,hss,Value.cells,hst,hov];exact h
end
section
variable {P:Program} {ops:Array Oper} {Q:Exit→Act→World→Prop} {a:Act} {w:World} {i:Nat} {o:Oper} {K:Act→World→Prop}
theorem any_normQ{md:Region.Mode}{n:Nat}{listed:Array Bool}{a':Act}(h:a=a')(hk:wpAny P md ops Q n listed a' w):wpAny P md ops Q n listed a w:=h▸hk
theorem op_build1Q(hi:ops[i]? =some o)(hw:Region.wanted o (yielded ops a.tmps)=true)(t e:TypeId)(y:Operand)(ho:o.op= .buildSlice t 1 #[(0,y)])(v:Value)(hy:a.eval y=v)(hu:P.underlying t=some (.slice e))
 (ie:TypeInfo) (z:Value) (hie:P.info? e=some ie) (hz:ie.zero=some z) (hs:ie.size=1) (hv:v.cells=#[v]) (h:K (a.put o.dst (.slice (some ⟨w.heap.size,0,none⟩) 1 1)) (w.alloc (.cells #[v] e))):wpOp P ops Q i K a w:=by
 refine op_val hi hw ?_ h;have hr:=run_buildSlice (P:=P) w t e 1 #[(0,v)] #[v] ie z hu hie hz (by rw[hs];omega) (by rw[hs];omega) (by simp only[Instr.fill,hs,Nat.zero_mul,Nat.one_mul,hv];rw[if_neg (by simp)];have:=fold_all [v] ((Array.range 1).map (z.cells[· % z.cells.size]!)) (by simp);simpa using this)
 simp only[execOp,ho,List.map_toArray,List.map_cons,List.map_nil,hy,Sem.run_bind,hr,Result.andThen_ok];rfl
theorem op_store1(hi:ops[i]? =some o)(hw:Region.wanted o (yielded ops a.tmps)=true)(ty:TypeId)(x y:Operand)(ho:o.op= .store ty x y)
 (p:Addr) (hx:a.eval x= .pointer (some p)) (v:Value) (hy:a.eval y=v) (hcs:v.cells=#[v]) (h1:v.oneCell'=true) (hs:(P.info? ty).map (·.size)=some 1)
 (c:Value) (hc:w.cell? p=some c) (hf:w.frozen? p=false) (h:K (a.put o.dst undef) (w.setCell p v)):wpOp P ops Q i K a w:=by
 unfold wpOp;simp only[hi];rw[if_pos hw];left;cases hq:P.info? ty with
 | none=> simp[hq] at hs
 | some it=>
  have hss:it.size=1:=by simpa[hq] using hs
  have h0:p.add 0=p:=by cases p;unfold Addr.add;split <;> simp_all
  have hst:(storeCells p [v] 0).run P w= .ok () (w.setCell p v):=by simp only[storeCells,Sem.run_bind,h0];rw[run_store P w p v .plain h1,hc];simp[hf]
  unfold Oper.wp execOp;simp[ho,hx,hy,Instr.storeAt,Instr.sureAddr,storeVar,sizeOf,typeInfo,hq,hss,hcs,hst];exact h
theorem op_app1(hgi:ops[i]? =some o)(hw:Region.wanted o (yielded ops a.tmps)=true)(s x:Operand)(t:TypeId)
 (ho:o.op= .call {callee:= .builtin .append,args:=#[s,x],argTypes:=#[t,t]})
 (base:Nat) (e:TypeId) (it:TypeInfo) (z:Value) (size bytes:Nat) (ht:P.underlying t=some (.slice e)) (hi:P.info? e=some it) (hz:it.zero=some z)
 (hsize:it.size=size) (hby:it.bytes=bytes) (hzs:z.cells.size=size) (hsz:0 < size)
 (v:Value) (n:Nat) (xs:List Value) (hs:a.eval s=v) (hown:w.ownsRow base e size v n xs)
 (ad:Addr) (m c:Nat) (news:List Value) (hx:a.eval x= .slice (some ad) m c) (hl:news.length=m*size) (hnews:∀j u,news[j]? =some u→w.cell? (ad.add j)=some u) (h1:∀u∈news,u.oneCell'=true)
 (h63:n+m≤maxLen) (hbytes:(n+m)*bytes≤140737488355328) (hbase:base≤w.heap.size)
 (h:∀v' w',w'.ownsRow base e size v' (n+m) (xs++news)→w.grownBy w' v.ownBlock→(v'.ownBlock=v.ownBlock∨v'.ownBlock=some w.heap.size)→K (a.put o.dst v') w'):wpOp P ops Q i K a w:=by
 obtain ⟨v',w',hr,h2,h3,_⟩:=run_append_own (P:=P) w base t o.type e it z size bytes ht hi hz hsize hby hzs hsz v n xs hown ad m c news hl hnews h1 h63 hbytes hbase;subst hsize;subst hby;have h4:=append_block w base t o.type e it z ht hi hz v n xs hown ad m c news hl hnews h1 h63 hbytes v' w' hr;refine op_val hgi hw ?_ (h v' w' h2 h3 h4);unfold execOp;simp only[ho,resolve,invoke,builtin,Sem.run_bind,Sem.run_pure,Result.andThen_ok,List.map_toArray,List.map_cons,List.map_nil,hs,hx,hr]
end
section
end
theorem own_cells{w:World}{B e size n:Nat}{v:Value}{xs:List Value}(h:w.ownsRow B e size v n xs):v.cells=#[v]:=by rcases h.2 with ⟨rfl,_⟩ | ⟨g,cap,cur,rfl,_⟩ <;> rfl
section
variable {P:Program}
theorem setRow_same{w:World}{g:Nat}{cs:Array Value}{t:TypeId}{f:Nat×Nat}(h:w.heap[g]? =some (.cells cs t f)):w.setRow g cs=w:=by
 have e:(w.setRow g cs).heap=w.heap:=by
  apply Array.ext_getElem?;intro k;by_cases hk:k=g
  ·subst hk;rw[setRow_heap w k cs cs t f h,h]
  ·exact setRow_other w g k cs hk
 cases w
 simp only[World.setRow] at e⊢;rw[e]
theorem run_clear_row(w:World)(t ty e:TypeId)(i:TypeInfo)(z:Value)(ht:P.underlying t=some (.slice e))(hi:P.info? e=some i)(hz:i.zero=some z)(h1:∀u∈(Builtin.zeroCells z.cells 1).toList,u.oneCell'=true)(g off n c:Nat)(cs:List Value)(te:TypeId)
 (hg:w.heap[g]? =some (.cells cs.toArray te (0,0))) (hfit:off+n*z.cells.size≤cs.length):∃vs:List Value,vs.length=n*z.cells.size∧
 (Builtin.clear_ #[t] ty #[.slice (some ⟨g,off,none⟩) n c]).run P w= .ok (.tuple #[]) (w.setRow g (over cs off vs).toArray):=by
 cases n with
 | zero=>
  refine ⟨[],by simp,?_⟩;have e1:over cs off []=cs:=by simp[over]
  have e2:w.setRow g cs.toArray=w:=setRow_same hg;rw[e1,e2];simp[Builtin.clear_,run_underlying ht]
 | succ n=>
  refine ⟨(Builtin.zeroCells z.cells (n+1)).toList,by simp[Builtin.zeroCells],?_⟩;have hone:∀u∈(Builtin.zeroCells z.cells (n+1)).toList,u.oneCell'=true:=fun u hu=> by
   simp only[Builtin.zeroCells,Array.toList_map,List.mem_map] at hu;obtain ⟨k,hk,rfl⟩:=hu;have hk2:k < (n+1)*z.cells.size:=by simpa using hk
   have hpos:0 < z.cells.size:=by
    rcases Nat.eq_zero_or_pos z.cells.size with h0 | h0
    ·rw[h0] at hk2;omega
    ·exact h0
   refine h1 _ ?_;simp only[Builtin.zeroCells,Array.toList_map,List.mem_map];refine ⟨k % z.cells.size,by simp[Nat.mod_lt _ hpos],by rw[Nat.mod_mod]⟩
  have hst:=run_storeCells_at P g off te (Builtin.zeroCells z.cells (n+1)).toList 0 cs.toArray w hg (by simp[Builtin.zeroCells];omega) hone;simp only[Nat.add_zero] at hst;have hov:cs.take off++(Builtin.zeroCells z.cells (n+1)).toList++cs.drop (off+(Builtin.zeroCells z.cells (n+1)).toList.length)=over cs off (Builtin.zeroCells z.cells (n+1)).toList:=by simp[over]
  simp[Builtin.clear_,run_underlying ht,zeroValue,typeInfo,hi,hz,hst,over]
theorem wpList_clear{w:World}{ops:Array Oper}{rest:List Oper}{o:Oper}{a:Act}{Q:Exit→Act→World→Prop}(hgd:o.guard=none)(s:Operand)(t:TypeId)
 (ho:o.op= .call {callee:= .builtin .clear,args:=#[s],argTypes:=#[t]}) (e:TypeId) (i:TypeInfo) (z:Value) (ht:P.underlying t=some (.slice e)) (hi:P.info? e=some i) (hz:i.zero=some z) (h1:∀u∈(Builtin.zeroCells z.cells 1).toList,u.oneCell'=true) (g off n c:Nat) (cs:List Value) (te:TypeId)
 (hs:a.eval s= .slice (some ⟨g,off,none⟩) n c) (hg:w.heap[g]? =some (.cells cs.toArray te (0,0))) (hfit:off+n*z.cells.size≤cs.length)
 (h:∀vs:List Value,vs.length=n*z.cells.size→wpList P ops Q rest (a.put o.dst (.tuple #[])) (w.setRow g (over cs off vs).toArray)):wpList P ops Q (o::rest) a w:=by
 refine wpList_plain hgd fun K hK=> ?_;obtain ⟨vs,hl,hr⟩:=run_clear_row (P:=P) w t o.type e i z ht hi hz h1 g off n c cs te hg hfit;unfold Oper.wp execOp;simp only[ho,resolve,invoke,builtin,Sem.run_bind,Sem.run_pure,Result.andThen_ok,List.map_toArray,List.map_cons,List.map_nil,hs,hr];exact hK _ _ (h vs hl)
theorem wpList_clear0{w:World}{ops:Array Oper}{rest:List Oper}{o:Oper}{a:Act}{Q:Exit→Act→World→Prop}(hgd:o.guard=none)(s:Operand)(t:TypeId)
 (ho:o.op= .call {callee:= .builtin .clear,args:=#[s],argTypes:=#[t]}) (e:TypeId) (ht:P.underlying t=some (.slice e)) (A:Option Addr) (n c:Nat)
 (hs:a.eval s= .slice A n c) (hn:n=0)
 (h:wpList P ops Q rest (a.put o.dst (.tuple #[])) w):wpList P ops Q (o::rest) a w:=by
 subst hn;refine wpList_plain hgd fun K hK=> ?_;have hr:(Builtin.clear_ #[t] o.type #[.slice A 0 c]).run P w= .ok (.tuple #[]) w:=by cases A <;> simp[Builtin.clear_,run_underlying ht]
 unfold Oper.wp execOp;simp only[ho,resolve,invoke,builtin,Sem.run_bind,Sem.run_pure,Result.andThen_ok,List.map_toArray,List.map_cons,List.map_nil,hs,hr];exact hK _ _ h
theorem row_cut_over{w:World}{B e size n m g c:Nat}{xs:List Value}(h:w.ownsRow B e size (.slice (some ⟨g,0,none⟩) n c) n xs)(hm:m≤n):
 ∃cur:List Value,w.heap[g]? =some (.cells cur.toArray e (0,0))∧n*size≤cur.length∧∀vs:List Value,m*size+vs.length≤cur.length→(w.setRow g (over cur (m*size) vs).toArray).ownsRow B e size (.slice (some ⟨g,0,none⟩) m c) m (xs.take (m*size)):=by
 have hl:=h.1;have hms:m*size≤n*size:=Nat.mul_le_mul_right _ hm;rcases h.2 with ⟨hv,_⟩ | ⟨g',cap,cur,hv,hb,hg,hnc,hcm,hcs,ht⟩
 ·cases hv
 ·simp only[Value.slice.injEq,Option.some.injEq,Addr.mk.injEq,true_and,and_true] at hv;obtain ⟨rfl,rfl⟩:=hv;have hlen:n*size≤cur.toList.length:=by rw[Array.length_toList,hcs];exact Nat.mul_le_mul_right _ hnc
  refine ⟨cur.toList,by simpa using hg,hlen,fun vs hfit=> ⟨by rw[List.length_take];omega,.inr ⟨g,c,_,rfl,hb,setRow_heap w g cur _ e _ hg,by omega,hcm,?_,?_⟩⟩⟩
  ·have e1:(over cur.toList (m*size) vs).length=cur.toList.length:=by simp only[over,List.length_append,List.length_take,List.length_drop];omega
   rw[List.size_toArray,e1,Array.length_toList,hcs]
  ·simp only[over];rw[←ht,List.take_append,List.take_take,List.take_take];have hA:(cur.toList.take (m*size)).length=m*size:=by rw[List.length_take];omega
   rw[hA,Nat.sub_self,List.take_zero,List.append_nil,Nat.min_self,Nat.min_eq_left hms]
end
section
variable {P:Program} {o:Oper} {a:Act}
theorem run_slLo(w:World){t:TypeId}(ho:o.op= .slice t x (some ix) none none)(A:Option Addr)(n c k sz:Nat)(e:TypeId)(hx:a.eval x= .slice A n c)(hi:a.eval ix= .int .i64 k)(hk:k≤n)
 (hu:P.underlying t=some (.slice e)) (hs:(P.info? e).map (·.size)=some sz):(execOp a.eval o).run P w= .ok (.value (.slice (if c=k then A else A.map (·.add (k*sz))) (n - k) (c - k))) w:=by
 cases hq:P.info? e with
 | none=> simp[hq] at hs
 | some i=>
  have his:i.size=sz:=by simpa[hq] using hs
  have hk2:(0:Int)≤(k:Int)∧(k:Int)≤n:=by omega
  simp[execOp,ho,hx,hi,Instr.sliceAt,Instr.slice,Instr.sliceBounds,Instr.sliceBound,run_underlying hu,asIntOf,sizeOf,typeInfo,hq,his,hk2,hk]
theorem run_slHi(w:World){t:TypeId}(ho:o.op= .slice t x none (some ix) none)(A:Option Addr)(n c k sz:Nat)(e:TypeId)(hx:a.eval x= .slice A n c)(hA:A=none∨∃g,A=some ⟨g,0,none⟩)(hi:a.eval ix= .int .i64 k)(hk:k≤c)
 (hu:P.underlying t=some (.slice e)) (hs:(P.info? e).map (·.size)=some sz):(execOp a.eval o).run P w= .ok (.value (.slice A k c)) w:=by
 cases hq:P.info? e with
 | none=> simp[hq] at hs
 | some i=>
  have his:i.size=sz:=by simpa[hq] using hs
  have hk2:(0:Int)≤(k:Int)∧(k:Int)≤c:=by omega
  have hA2:A.map (·.add 0)=A:=by
   rcases hA with rfl | ⟨g,rfl⟩
   ·rfl
   ·simp only[Option.map_some,Addr.add_lit]
  simp[execOp,ho,hx,hi,Instr.sliceAt,Instr.slice,Instr.sliceBounds,Instr.sliceBound,run_underlying hu,asIntOf,sizeOf,typeInfo,hq,his,hk2,hk,hA2]
theorem run_ld1(w:World){ty:TypeId}(ho:o.op= .load ty x)(p:Addr)(v:Value)(hx:a.eval x= .pointer (some p)){d:TypeDesc}(hu:P.underlying ty=some d)(hd:aggD d=false)(hc:w.cell? p=some v):(execOp a.eval o).run P w= .ok (.value v) w:=by
 have hagg:(isAgg ty).run P w= .ok false w:=by unfold isAgg;rw[Sem.run_bind,run_underlying hu w];cases d <;> simp_all [aggD]
 simp[execOp,ho,hx,Instr.loadAt,Instr.sureAddr,loadVar,Sem.run_bind,hagg,hc]
end
section
variable {P:Program} {ops:Array Oper} {md:Region.Mode} {W0 W1:World} {p:Nat}
def YM(P:Program)(ops:Array Oper)(W0 W1:World)(p i:Nat)(o:Oper)(v:Value)(a:Act):Prop:=
 (Region.wanted o (yielded ops a.tmps)=true∧(execOp a.eval o).run P W0= .ok (.value v) (if i=p then W1 else W0)∧(i≠p→(execOp a.eval o).run P W1= .ok (.value v) W1))∨(Region.wanted o (yielded ops a.tmps)=false∧v=undef∧i≠p)∨(Region.wanted o (yielded ops a.tmps)=true∧v=undef∧i=p∧(execOp a.eval o).run P W0= .ok .skip W1)
theorem YM.of_put{i:Nat}{o:Oper}{v:Value}{a:Act}{d:Option Tmp}{u:Value}(hs:∀cs b,o.op≠ .select cs b)(h:∀t,d=some t→t∉o.looksAt ops):YM P ops W0 W1 p i o v (a.put d u)↔YM P ops W0 W1 p i o v a:=by unfold YM;rw[execOp_put o hs a d u h,wanted_put o a d u h]
theorem YM.wp{o:Oper}{i:Nat}{v:Value}{a:Act}{b:Bool}(hi:ops[i]? =some o)(hy:YM P ops W0 W1 p i o v a)(hb:i=p→b=false){K:Act→World→Prop}{Q:Exit→Act→World→Prop}(h:K (a.put o.dst v) (if b || decide (i=p) then W1 else W0)):wpOp P ops Q i K a (if b then W1 else W0):=by
 unfold wpOp;simp only[hi];rcases hy with ⟨h1,h2,h3⟩ | ⟨h1,rfl,h3⟩ | ⟨h1,rfl,hip,h2⟩
 ·rw[if_pos h1];left;unfold Oper.wp;by_cases hip:i=p
  ·rw[hb hip] at h⊢;rw[if_pos hip] at h2;simp only[Bool.false_eq_true,if_false,Bool.false_or,hip,decide_true,if_true] at h⊢;rw[h2];exact h
  ·rw[if_neg hip] at h2;simp only[hip,decide_false,Bool.or_false] at h;cases b
   ·simp only[Bool.false_eq_true,if_false] at h⊢;rw[h2];exact h
   ·simp only[if_true] at h⊢;rw[h3 hip];exact h
 ·rw[h1];simp only[h3,decide_false,Bool.or_false] at h;exact h
 ·rw[if_pos h1];left;unfold Oper.wp;rw[hb hip] at h⊢;simp only[Bool.false_eq_true,if_false,Bool.false_or,hip,decide_true,if_true] at h⊢;rw[h2];exact h
def anySeqM(P:Program)(md:Region.Mode)(ops:Array Oper)(W0 W1:World)(p:Nat)(K:Array Bool→Act→Prop):Nat→Array Bool→Act→Prop
 | 0,listed,a=> K listed a
 | m+1,listed,a=> ∀i∈Region.ready md ops listed,∃o v,ops[i]? =some o∧YM P ops W0 W1 p i o v a∧anySeqM P md ops W0 W1 p K m (listed.setIfInBounds i true) (a.put o.dst v)
theorem getD_ff{listed:Array Bool}{i:Nat}(h:listed.getD i true=false):listed.getD i false=false∧i < listed.size:=by
 rcases Nat.lt_or_ge i listed.size with h' | h'
 ·refine ⟨?_,h'⟩;simp[h'] at h⊢;exact h
 ·simp[Array.getElem?_eq_none h'] at h
theorem anySeqM_sound{K:Array Bool→Act→Prop}{Q:Exit→Act→World→Prop}{ks:List Nat}{t:Nat}(hp:p∈ks)(hK:∀listed a,K listed a→wpAny P md ops Q t listed a W1):
 ∀(m:Nat) (listed:Array Bool) (a:Act),onlyB md ops ks m listed=true→anySeqM P md ops W0 W1 p K m listed a→wpAny P md ops Q (m+t) listed a (if listed.getD p false then W1 else W0)
 | 0,listed,a,ho,h=> by unfold onlyB at ho;rw[List.all_eq_true.1 ho p hp,if_pos rfl,Nat.zero_add];exact hK listed a h
 | m+1,listed,a,ho,h=> by
  obtain ⟨h1,h2⟩:=onlyB_succ ho;rw[show m+1+t=m+t+1 by omega];refine ⟨fun e=> absurd e h1,fun i hi=> ?_⟩;obtain ⟨o,v,hio,hy,hk⟩:=h i hi;obtain ⟨hif,hil⟩:=getD_ff (mem_ready.1 hi).1;refine hy.wp (b:=listed.getD p false) hio (fun e=> by rw[←e];exact hif) ?_;have:=anySeqM_sound hp hK m _ _ (h2 i hi).2 hk;by_cases hip:i=p
  ·subst hip;have e1:(listed.setIfInBounds i true).getD i false=true:=by rw[getD_set _ _ _ hil,if_pos rfl]
   rw[e1,if_pos rfl] at this;simp only[decide_true,Bool.or_true,if_true];exact this
  ·rw[getD_set_ne false hip] at this;simp only[hip,decide_false,Bool.or_false];exact this
theorem anySeqM_first{K:Array Bool→Act→Prop}{i:Nat}{oi:Oper}{v:Value}{ks:List Nat}(hi:ops[i]? =some oi)(hsel:∀(j:Nat) (o:Oper) cs b,ops[j]? =some o→o.op≠ .select cs b):
 ∀(m:Nat) (listed:Array Bool) (a:Act),onlyB md ops ks (m+1) listed=true→
  (∀j oj,ops[j]? =some oj→j≠i→listed.getD j true=false→(∀e∈oj.after,Region.binds md e=true→e.on≠i)→oi.apart ops oj=true)→
  i∈Region.ready md ops listed→YM P ops W0 W1 p i oi v a→anySeqM P md ops W0 W1 p K m (listed.setIfInBounds i true) (a.put oi.dst v)→anySeqM P md ops W0 W1 p K (m+1) listed a:=by
 intro m;induction m with
 | zero=>
  intro listed a ho _ hr hy H j hj;by_cases hji:j=i
  ·subst hji;exact ⟨oi,v,hi,hy,H⟩
  ·exfalso;obtain ⟨_,h2⟩:=onlyB_succ ho;have h3:=(h2 i hr).2;unfold onlyB at h3;have h4:=List.all_eq_true.1 h3 j (h2 j hj).1;rw[getD_set_ne false (Ne.symm hji)] at h4;have h5:=(mem_ready.1 hj).1;rcases Nat.lt_or_ge j listed.size with h' | h'
   ·simp[h'] at h4 h5;rw[h4] at h5;cases h5
   ·simp[Array.getElem?_eq_none h'] at h4
 | succ m ih=>
  intro listed a ho hfree hr hy H j hj;by_cases hji:j=i
  ·subst hji;exact ⟨oi,v,hi,hy,H⟩
  ·obtain ⟨oj,u,hoj,hyj,hkj⟩:=H j (ready_mono hj hji);obtain ⟨hjun,oj',hoj',hall⟩:=mem_ready.1 hj;obtain rfl:oj'=oj:=Option.some.inj (hoj'.symm.trans hoj);have hnot:∀e∈oj'.after,Region.binds md e=true→e.on≠i:=fun e he hb heq=> by
    have h1:=hall e he hb;have h0:=(mem_ready.1 hr).1;rw[heq] at h1;rcases Nat.lt_or_ge i listed.size with h' | h'
    ·simp[h'] at h0 h1;rw[h0] at h1;cases h1
    ·simp[Array.getElem?_eq_none h'] at h1
   obtain ⟨a1,a2,a3⟩:=Oper.apart_spec (hfree j oj' hoj hji hjun hnot);have hfree':∀k ok,ops[k]? =some ok→k≠i→(listed.setIfInBounds j true).getD k true=false→
    (∀e∈ok.after,Region.binds md e=true→e.on≠i)→oi.apart ops ok=true:=fun k ok hk hki hun hno=> by
    refine hfree k ok hk hki ?_ hno;by_cases hjk:j=k
    ·subst hjk;exact hjun
    ·rw[getD_set_ne true hjk] at hun;exact hun
   refine ⟨oj',u,hoj,(YM.of_put (hsel j oj' · · hoj) a1).1 hyj,ih (listed.setIfInBounds j true) (a.put oj'.dst u) ((onlyB_succ ho).2 j hj).2 hfree' (ready_mono hr (Ne.symm hji)) ((YM.of_put (hsel i oi · · hi) a3).2 hy) ?_⟩;rw[Array.setIfInBounds_comm _ _ hji,Act.put_comm a u v (fun d hd e=> a2 d e hd)];exact hkj
def wpM(P:Program)(ops:Array Oper)(W0 W1:World)(p:Nat)(Q:Act→Prop):List Nat→List Oper→Act→Prop
 | k::ks,o::l,a=> ∃v,YM P ops W0 W1 p k o v a∧wpM P ops W0 W1 p Q ks l (a.put o.dst v)
 | _,_,a=> Q a
theorem anySeqM_lex{Q:Act→Prop}{ks0:List Nat}(hs:Region.noSelect ops=true):∀(ks:List Nat) (l:List Oper) (listed:Array Bool) (a:Act),(ks.map fun k=> ops[k]?)=l.map some→
 seqB md ops ks listed=true→onlyB md ops ks0 ks.length listed=true→wpM P ops W0 W1 p Q ks l a→anySeqM P md ops W0 W1 p (fun L a'=> L=ks.foldl (fun L k=> L.setIfInBounds k true) listed∧Q a') ks.length listed a
 | [],[],_,_,_,_,_,h=> ⟨rfl,h⟩
 | [],o::l,_,_,hl,_,_,_=> by simp at hl
 | k::ks,[],_,_,hl,_,_,_=> by simp at hl
 | k::ks,o::l,listed,a,hl,hB,ho,h=> by
  simp only[List.map_cons,List.cons.injEq] at hl;simp only[seqB,Bool.and_eq_true,List.contains_iff_mem] at hB;obtain ⟨⟨hr,hf⟩,hB'⟩:=hB;obtain ⟨v,hy,hK⟩:=h;exact anySeqM_first hl.1 (Region.noSelect_spec hs) ks.length listed a ho (Region.free_spec hl.1 hf) hr hy
   (anySeqM_lex hs ks l _ _ hl.2 hB' ((onlyB_succ ho).2 k hr).2 hK)
theorem any_seqM{Q:Exit→Act→World→Prop}{a:Act}{listed:Array Bool}{t:Nat}(p:Nat)(W1:World)(ks:List Nat)(l:List Oper)(hns:Region.noSelect ops=true)(hl:(ks.map fun k=> ops[k]?)=l.map some)
 (hs:seqB md ops ks listed=true) (ho:onlyB md ops ks ks.length listed=true) (hp:ks.contains p=true) (hlp:listed.getD p false=false)
 (h:wpM P ops W0 W1 p (fun a'=> wpAny P md ops Q t (ks.foldl (fun L k=> L.setIfInBounds k true) listed) a' W1) ks l a):wpAny P md ops Q (ks.length+t) listed a W0:=by
 have:=anySeqM_sound (ks:=ks) (W0:=W0) (W1:=W1) (p:=p) (by simpa using hp) (fun L a' hk=> by obtain ⟨rfl,hq⟩:=hk;exact hq) ks.length listed a ho (anySeqM_lex hns ks l listed a hl hs ho h);rw[hlp] at this;exact this
end
section
variable {P:Program} {ops:Array Oper} {W0 W1:World} {p:Nat} {Q:Act→Prop} {k:Nat} {ks:List Nat} {o:Oper} {l:List Oper} {a:Act} {v:Value}
theorem m_read(hw:Region.wanted o (yielded ops a.tmps)=true)(hk:k≠p)(h0:(execOp a.eval o).run P W0= .ok (.value v) W0)(h1:(execOp a.eval o).run P W1= .ok (.value v) W1)(h:wpM P ops W0 W1 p Q ks l (a.put o.dst v)):wpM P ops W0 W1 p Q (k::ks) (o::l) a:=
 ⟨v,.inl ⟨hw,by rw[if_neg hk];exact h0,fun _=> h1⟩,h⟩
theorem m_make(hw:Region.wanted o (yielded ops a.tmps)=true)(h0:(execOp a.eval o).run P W0= .ok (.value v) W1)(h:wpM P ops W0 W1 p Q ks l (a.put o.dst v)):wpM P ops W0 W1 p Q (p::ks) (o::l) a:=
 ⟨v,.inl ⟨hw,by rw[if_pos rfl];exact h0,fun e=> absurd rfl e⟩,h⟩
theorem m_store(hw:Region.wanted o (yielded ops a.tmps)=true)(h0:(execOp a.eval o).run P W0= .ok .skip W1)(h:wpM P ops W0 W1 p Q ks l (a.put o.dst undef)):wpM P ops W0 W1 p Q (p::ks) (o::l) a:=
 ⟨undef,.inr (.inr ⟨hw,rfl,rfl,h0⟩),h⟩
theorem m_norm{a':Act}(h:a=a')(hk:wpM P ops W0 W1 p Q ks l a'):wpM P ops W0 W1 p Q ks l a:=h▸hk
theorem m_nil(h:Q a):wpM P ops W0 W1 p Q [] [] a:=h
end
def ndc(j i:Nat)(h:HB):List Value:= .int .u8 j:: .int .u64 i::h.map u8v
def ndI(j i:Int)(h:HB):List Value:= .int .u8 j:: .int .u64 i::h.map u8v
def nds(n:Nat)(l:List HB)(h:HB)(k:Nat):List Value:=((List.range (k+1)).map (fun j=> ndc j (n / 2 ^ j) (cr nodeH l j h))).flatten
section
variable {P:Program} {ops:Array Oper} {Q:Exit→Act→World→Prop} {a:Act} {w:World} {i:Nat} {o:Oper} {K:Act→World→Prop}
theorem op_buildOneA(hi:ops[i]? =some o)(hw:Region.wanted o (yielded ops a.tmps)=true)(t e:TypeId)(y:Operand)(ho:o.op= .buildSlice t 1 #[(0,y)])
 (vs:List Value) (hy:a.eval y= .agg vs.toArray) (hu:P.underlying t=some (.slice e)) (hie:(P.info? e).map (·.size)=some vs.length) (hz:((P.info? e).bind (·.zero)).isSome=true) (hpos:0 < vs.length) (hsmall:vs.length≤16777216)
 (h:K (a.put o.dst (.slice (some ⟨w.heap.size,0,none⟩) 1 1)) (w.alloc (.cells vs.toArray e))):wpOp P ops Q i K a w:=by
 cases hq:P.info? e with
 | none=> simp[hq] at hie
 | some ie=>
  simp only[hq,Option.map_some,Option.some.injEq,Option.bind_some] at hie hz;obtain ⟨z,hzz⟩:=Option.isSome_iff_exists.1 hz;refine op_val hi hw ?_ h;have hr:=run_buildSlice (P:=P) w t e 1 #[(0,.agg vs.toArray)] vs.toArray ie z hu hq hzz (by rw[hie];omega) (by rw[hie];omega) (by simp only[Instr.fill,Value.cells,hie,Nat.zero_mul,Nat.one_mul];rw[if_neg (by simp),fold_all _ _ (by simp)])
  simp only[execOp,ho,List.map_toArray,List.map_cons,List.map_nil,hy,Sem.run_bind,hr,Result.andThen_ok];rfl
end
theorem run_buildOneA{P:Program}{a:Act}{o:Oper}(w:World)(t e:TypeId)(y:Operand)(ho:o.op= .buildSlice t 1 #[(0,y)])
 (vs:List Value) (hy:a.eval y= .agg vs.toArray) (hu:P.underlying t=some (.slice e)) (hie:(P.info? e).map (·.size)=some vs.length) (hz:((P.info? e).bind (·.zero)).isSome=true) (hpos:0 < vs.length) (hsmall:vs.length≤16777216):
 (execOp a.eval o).run P w= .ok (.value (.slice (some ⟨w.heap.size,0,none⟩) 1 1)) (w.alloc (.cells vs.toArray e)):=by
 cases hq:P.info? e with
 | none=> simp[hq] at hie
 | some ie=>
  simp only[hq,Option.map_some,Option.some.injEq,Option.bind_some] at hie hz;obtain ⟨z,hzz⟩:=Option.isSome_iff_exists.1 hz;have hr:=run_buildSlice (P:=P) w t e 1 #[(0,.agg vs.toArray)] vs.toArray ie z hu hq hzz (by rw[hie];omega) (by rw[hie];omega) (by simp only[Instr.fill,Value.cells,hie,Nat.zero_mul,Nat.one_mul];rw[if_neg (by simp),fold_all _ _ (by simp)])
  simp only[execOp,ho,List.map_toArray,List.map_cons,List.map_nil,hy,Sem.run_bind,hr,Result.andThen_ok];rfl
theorem op_asg{P:Program}{ops:Array Oper}{Q:Exit→Act→World→Prop}{a:Act}{w:World}{i:Nat}{o:Oper}{K:Act→World→Prop}(hi:ops[i]? =some o)(hw:Region.wanted o (yielded ops a.tmps)=true)(ho:o.op= .assign x)(v:Value)(hv:a.eval x=v)(h:K (a.put o.dst v) w):wpOp P ops Q i K a w:=by subst hv;exact op_val hi hw (by simp[execOp,ho]) h
theorem inv_act{P:Program}{ops:Array Oper}{Q:Exit→Act→World→Prop}{w:World}{a a':Act}{md:Region.Mode}{n:Nat}{listed:Array Bool}(h:a=a')(hk:wpAny P md ops Q n listed a' w):wpAny P md ops Q n listed a w:=h▸hk
theorem node_size:(Tryz.prog.info? 179).map (·.size)=some 34:=by kernel_rfl
theorem node_zero:((Tryz.prog.info? 179).bind (·.zero)).isSome=true:=by kernel_rfl
theorem ndc_len(j i:Nat)(hy:y.length=32):(ndc j i y).length=34:=by simp[ndc,hy]
theorem fold_over(o:Nat):∀(vs:List Value) (k:Nat) (cs:List Value),o+k+vs.length≤cs.length→(vs.zipIdx k).foldl (fun (cs:Array Value) (x:Value×Nat)=> cs.setIfInBounds (o+x.2) x.1) cs.toArray=(over cs (o+k) vs).toArray:=by
 intro vs;induction vs with
 | nil=> intro k cs _;simp[over]
 | cons v vs ih=>
  intro k cs hl;simp only[List.length_cons] at hl;rw[List.zipIdx_cons,List.foldl_cons];show List.foldl _ (cs.toArray.setIfInBounds (o+k) v) _=_;rw[show cs.toArray.setIfInBounds (o+k) v=(cs.set (o+k) v).toArray by simp,ih (k+1) (cs.set (o+k) v) (by rw[List.length_set];omega)];congr 1;unfold over;have h1:(cs.set (o+k) v).take (o+(k+1))=cs.take (o+k)++ [v]:=by rw[show o+(k+1)=(o+k)+1 by omega,List.take_succ_eq_append_getElem (by rw[List.length_set];omega),List.getElem_set_self,List.take_set_of_le (Nat.le_refl _)]
  have h2:(cs.set (o+k) v).drop (o+(k+1)+vs.length)=cs.drop (o+k+(v::vs).length):=by rw[List.drop_set_of_lt (by omega),List.length_cons,show o+(k+1)+vs.length=o+k+(vs.length+1) by omega]
  rw[h1,h2];simp
theorem node_build(a b:Value)(y:HB)(hy:y.length=32):List.foldl (fun (cs:Array Value) (x:Value×Nat)=> cs.setIfInBounds (2+x.2) x.1) #[a,b,.int .u8 0,.int .u8 0,.int .u8 0,.int .u8 0,.int .u8 0,.int .u8 0,.int .u8 0,.int .u8 0,.int .u8 0,.int .u8 0,.int .u8 0,.int .u8 0,.int .u8 0,.int .u8 0,.int .u8 0,.int .u8 0,.int .u8 0,.int .u8 0,.int .u8 0,.int .u8 0,.int .u8 0,.int .u8 0,.int .u8 0,.int .u8 0,.int .u8 0,.int .u8 0,.int .u8 0,.int .u8 0,.int .u8 0,.int .u8 0,.int .u8 0,.int .u8 0] ((y.map u8v).zipIdx)=(a::b::y.map u8v).toArray:=by have h:=fold_over 2 (y.map u8v) 0 (a::b::zero32.toList) (by simp[hy]);refine h.trans ?_;congr 1;unfold over;simp[hy]
theorem compl64(n:Nat)(h:n < 18446744073709551616):bits .xor .u64 IntKind.u64.max (n:Int)=((18446744073709551615 - n:Nat):Int):=by
 show IntKind.u64.wrap (((BitVec.ofInt 64 IntKind.u64.max) ^^^ (BitVec.ofInt 64 (n:Int))).toNat:Int)=_;have e1:BitVec.ofInt 64 IntKind.u64.max=BitVec.allOnes 64:=by decide+kernel
 have e2:(BitVec.ofInt 64 (n:Int)).toNat=n:=by rw[BitVec.ofInt_natCast,BitVec.toNat_ofNat];exact Nat.mod_eq_of_lt (by omega)
 rw[e1,BitVec.allOnes_xor,BitVec.toNat_not,e2,IntKind.wrap_u64];omega
def AdRel(q:Nat)(n:Nat)(l:List HB)(y:HB)(o:Nat)(w:World)(v jv:Value)(wr:World):Prop:=
 ∃(j:Nat),j≤o∧jv= .int .i64 j∧wr.ownsRow (q+1) 179 34 v (j+1) (nds n l y j)∧(∃x,x=cr nodeH l j y∧x.length=32∧wr.heap[q]? =some (.cells (x.map u8v).toArray 30 (0,0)))∧Upd (fun g=> q≤g) w wr
theorem zero_oneC:∀u∈(Builtin.zeroCells (Value.agg zero32).cells 1).toList,u.oneCell'=true:=List.all_eq_true.1 (by kernel_rfl)
theorem size_hashes:(Tryz.prog.info? 65).map (·.size)=some 1:=by kernel_rfl
theorem own_one(w:World){B size:Nat}{e:TypeId}(vs:List Value)(hs:vs.length=size)(hB:B≤w.heap.size):(w.alloc (.cells vs.toArray e)).ownsRow B e size (.slice (some ⟨w.heap.size,0,none⟩) 1 1) 1 vs:=
 ⟨by rw[Nat.one_mul];exact hs,.inr ⟨w.heap.size,1,vs.toArray,rfl,hB,blk_alloc _ _,Nat.le_refl _,by decide,by simp[hs],by rw[Nat.one_mul,←hs];simp⟩⟩
theorem row_capL{w:World}{B e size n:Nat}{c:Nat}{xs:List Value}(h:w.ownsRow B e size (.slice A n c) n xs):n≤c:=by
 rcases h.2 with ⟨hv,h0⟩ | ⟨g,cap,cur,hv,_,_,hnc,_⟩
 ·omega
 ·simp only[Value.slice.injEq,true_and] at hv;omega
theorem row_addr{w:World}{B e size n:Nat}{c:Nat}{xs:List Value}(h:w.ownsRow B e size (.slice A n c) n xs):A=none∨∃g,A=some ⟨g,0,none⟩:=by
 rcases h.2 with ⟨hv,h0⟩ | ⟨g,cap,cur,hv,_⟩
 ·simp only[Value.slice.injEq] at hv;exact .inl hv.1
 ·simp only[Value.slice.injEq,true_and] at hv;exact .inr ⟨g,hv.1⟩
theorem hash_zero:((Tryz.prog.info? 30).bind (·.zero)).isSome=true:=by kernel_rfl
theorem nds_zero(n:Nat)(l:List HB)(y:HB):nds n l y 0=ndc 0 n y:=by simp[nds,cr_zero]
theorem nds_succ(n:Nat)(l:List HB)(y:HB)(k:Nat):nds n l y (k+1)=nds n l y k++ndc (k+1) (n / 2 ^ (k+1)) (cr nodeH l (k+1) y):=by unfold nds;rw[List.range_succ (n:=k+1),List.map_append,List.flatten_append];simp
theorem ndc_one(j i:Nat)(y:HB):∀u∈ndc j i y,u.oneCell'=true:=fun u hu=> by
 simp only[ndc,List.mem_cons] at hu;rcases hu with rfl | rfl | hu
 ·rfl
 ·rfl
 ·exact u8_ones y u hu
theorem info_node:(Tryz.prog.info? 179).map (fun i=> (i.zero.map (·.cells.size),i.size,i.bytes))=some (some 34,34,48):=by kernel_rfl
theorem node_parts:∃(j0:TypeInfo) (z:Value),Tryz.prog.info? 179=some j0∧j0.zero=some z∧j0.size=34∧j0.bytes=48∧z.cells.size=34:=by
 have h:=info_node;cases hq:Tryz.prog.info? 179 with
 | none=> rw[hq] at h;cases h
 | some i=>
  rw[hq] at h;simp only[Option.map_some,Option.some.injEq,Prod.mk.injEq] at h;obtain ⟨h1,h2,h3⟩:=h;cases hz:i.zero with
  | none=> rw[hz] at h1;cases h1
  | some z=>
   rw[hz] at h1;exact ⟨i,z,rfl,hz,h2,h3,by simpa using h1⟩
theorem AdRel.step{q n j:Nat}{l:List HB}{x:HB}{o:Nat}{w W3:World}{v:Value}(hj:j < o)(hx:x=cr nodeH l (j+1) y)(hx32:x.length=32)(hq:W3.heap[q]? =some (.cells (x.map u8v).toArray 30 (0,0)))(hv:W3.ownsRow (q+1) 179 34 v (j+1) (nds n l y j))(hu:Upd (fun g=> q≤g) w W3)(hqw:q=w.heap.size)
 {v':Value} {w':World} (hown:w'.ownsRow (q+1) 179 34 v' (j+1+1) (nds n l y j++ndc (j+1) (n / 2 ^ (j+1)) x)) (hgrow:(W3.drew.alloc (.cells (ndc (j+1) (n / 2 ^ (j+1)) x).toArray 179)).grownBy w' v.ownBlock):AdRel q n l y o w v' (.int .i64 ((j+1:Nat):Int)) w':=by
 refine ⟨j+1,by omega,rfl,by rw[nds_succ,←hx];exact hown,⟨x,hx,hx32,?_⟩,?_⟩
 ·refine (hgrow.block q ?_ ?_).trans ?_
  ·have:=lt_of_blk hq;simp;omega
  ·intro e;have:=(hv.lt q e.symm).1;omega
  ·rw[Below.heap_alloc _ _ _ (lt_of_blk (w:=W3.drew) hq)];exact hq
 ·exact ((hu.drew).alloc _).grown hgrow (fun k hk=> .inl (by have:=(hv.lt k hk).1;omega))
theorem add_any{B:Nat}{w:World}{b:Nat}{lv:Value}{n:Nat}{l:List HB}(D:BldAt B w b lv n l)(y:HB)(hh:y.length=32)(h32:H32 l)(hn:n < 16777216)(ho:ones n≤l.length)(hl:l.length≤64)(hG:21 < w.heap.size)(htab:ShaTab w)(hT:TabAt 20 Lib.deBruijn64tab w):
 Calls Tryz.prog 101 #[.pointer (some ⟨b,0,none⟩),hashV y] w fun e w'=> ∃rv lv',e= .returned (.tuple #[rv,.nilIface])∧w'.ownsRow w.heap.size 179 34 rv (ones n+1) (nds n l y (ones n))∧
  BldAt B w' b lv' (n+1) (l.take (l.length - ones n)++ [cr nodeH l (ones n) y])∧(∀g,lv'.ownBlock=some g→lv.ownBlock=some g∨w.heap.size≤g)∧Upd (fpE b lv) w w':=by
 obtain ⟨LA,lc,rfl⟩:=own_sl D.row;have X0:=(Upd.refl none' w).alloc (.cells (y.map u8v).toArray 30);have HQ:=ZA (blk_alloc w (.cells (y.map u8v).toArray 30));have HX:=ZA X0;have HT:=ZA (htab.ext X0);have HTB:=ZA (tabAt_ext hT X0);have HG:=ZA hG;have HD:=ZA (D.ext X0);have HB1:=ZA (u8_ones y);have HSL:=ZA (hash_size32 y hh);generalize hW:w.alloc (.cells (y.map u8v).toArray 30)=W at*;have c0:W.cell? ⟨b,0,none⟩=some (.bool true):=cell_of_blk HD.o.blk 0;have c1:W.cell? ⟨b,1,none⟩=some (.int .u64 n):=cell_of_blk HD.o.blk 1;have hne:¬((n:Int)=9223372036854775808):=by omega
 have C:=ctz_any (18446744073709551615 - n) (by omega) (by omega) W HTB.o;rw[ctz_compl n (by omega)] at C;have hxc:=compl64 n (by omega);go_enter Tryz.func101,Tryz.ntmps101;go_wp2_with fail;refine C.mono ?_;rintro e w1 ⟨rfl,rfl⟩;go_wp2_with fail;refine wp_region_any (by kernel_rfl) ?_;change wpAny _ _ _ _ _ _ _ (World.drew _);refine any_seq (t:=2) [0,1,2,3,4,5,6] [_,_,_,_,_,_,_] (fun w'=> w'=W.drew) (by kernel_rfl) rfl (by kernel_rfl) (by kernel_rfl) rfl ?_;simp only[List.getElem_toArray,List.getElem_cons_succ,List.getElem_cons_zero];refine inv_move rfl rfl (.pointer (some ⟨b,0,none⟩)) rfl ?_;refine inv_norm (by go_simp;exact rfl) ?_;refine inv_pure (v:= .pointer (some ⟨b,0,none⟩)) rfl (fun w7=> by go_simp) ?_;refine inv_norm (by go_simp;exact rfl) ?_;refine inv_pure (v:= .pointer (some ⟨b,1,none⟩)) rfl (fun w7=> by go_simp) ?_;refine inv_norm (by go_simp;exact rfl) ?_;refine inv_load1 rfl rfl ⟨b,1,none⟩ (.int .u64 n) rfl Tryz.underlying28 rfl (fun w7 h7=> by subst h7;exact c1) ?_;refine inv_norm (by go_simp;exact rfl) ?_;refine inv_pure (v:= .agg #[.int .u8 0,.int .u64 n]) rfl (fun w7=> by go_simp) ?_;refine inv_norm (by go_simp;exact rfl) ?_;refine inv_loadAgg rfl 30 _ rfl w.heap.size 0 rfl (y.map u8v) Tryz.underlying30 rfl HSL.o (fun w7 h7 j v hv=> by subst h7;exact blk_cells HQ.o j v hv) ?_;refine inv_norm (by go_simp;exact rfl) ?_;refine inv_pure (v:= .agg (ndc 0 n y).toArray) rfl (fun w7=> by go_simp;exact node_build _ _ y hh) ?_;refine inv_norm (by go_simp;exact rfl) ?_;refine inv_nil ?_;rintro w7 rfl;refine any1 7 (by kernel_rfl) ?_;refine op_buildOneA rfl (by rfl) 173 179 _ rfl (ndc 0 n y) rfl Tryz.underlying173 (node_size.trans (congrArg some (ndc_len 0 n hh).symm)) node_zero (by rw[ndc_len 0 n hh];omega) (by rw[ndc_len 0 n hh];omega) ?_;refine inv_act (by go_simp;exact rfl) ?_;refine any1 8 (by kernel_rfl) ?_;refine op_asg rfl (by rfl) rfl (.slice (some ⟨W.heap.size,0,none⟩) 1 1) rfl ?_;refine inv_act (by go_simp;exact rfl) ?_;refine wpAny_done (by kernel_rfl) ?_ _;have HX2:=ZA ((HX.o.drew).alloc (.cells (ndc 0 n y).toArray 179));have HQ2:=ZA (Ext.blk (((Upd.refl none' W).drew).alloc (.cells (ndc 0 n y).toArray 179)) HQ.o);have HT2:=ZA (HT.o.ext (((Upd.refl none' W).drew).alloc (.cells (ndc 0 n y).toArray 179)));have HD2:=ZA (HD.o.ext (((Upd.refl none' W).drew).alloc (.cells (ndc 0 n y).toArray 179)));have HWS:=ZA (show w.heap.size+1≤W.heap.size by rw[←hW];simp);have HO2:=ZA (own_one W.drew (B:=w.heap.size+1) (e:=179) (ndc 0 n y) (ndc_len 0 n hh) HWS.o);have HHH:=ZA hh;have HH32:=ZA h32;have HHO:=ZA ho;have HHL:=ZA hl;have HHN:=ZA hn;have HD0:=ZA D;have HT0:=ZA htab;obtain ⟨i0,hi0,hz0,hz1,hz2⟩:=info_parts info_hash;clear hW HD HT HTB HX HQ c0 c1 C hxc hne D hh h32 htab hT hG hl ho hn;generalize World.alloc W.drew (.cells (ndc 0 n y).toArray 179)=w2 at*;generalize hoo:ones n=o at*;go_wp2_with fail;go_loopw [7,41] (fun v jv wr=> AdRel w.heap.size n l y o w v jv wr) (fun _ jv _=> o - (RowKit.intOf jv).toNat);case atStart=> exact ⟨0,Nat.zero_le _,rfl,by rw[nds_zero];exact HO2.o,⟨y,(cr_zero nodeH l y).symm,HHH.o,HQ2.o⟩,Upd.ext HX2.o _⟩
 case round=>
  obtain ⟨j,hj,rfl,how,⟨x,hx,hx32,hq⟩,hu⟩:=hrel;obtain ⟨vA,vc,rfl⟩:=own_sl how;have HQQ:=ZA hq;have HXE:=ZA hx;have HX32:=ZA hx32;have HU:=ZA hu;have HOW:=ZA how;have HDW:Hid (BldAt B wr b (.slice LA l.length lc) n l):=ZA (HD0.o.upd hu (fun g hg e=> by
   have e2:w.heap.size≤g:=e;rcases hg with hg | hg
   ·have e3:g=b:=hg;have:=lt_of_blk HD0.o.blk;omega
   ·have:=(HD0.o.row.lt g hg).2;omega))
  have HT1:Hid (ShaTab wr):=ZA ((HT0.o).upd hu (fun e=> by have e2:w.heap.size≤21:=e;have:=HG.o;omega));have HSXX:=ZA (hash_size32 x hx32);clear hu how hx32 hx hq;by_cases hlt:j < o
  ·have hji:(j:Int) < o:=by omega
   obtain ⟨m,hm⟩:∃m,m=l.length - 1 - j:=⟨_,rfl⟩;have hlo:=HHO.o;have hml:m < l.length:=by omega
   have hll:=HHL.o;have hs1:IntKind.i64.wrap ((l.length:Int) - 1)=((l.length - 1:Nat):Int):=by rw[show (l.length:Int) - 1=((l.length - 1:Nat):Int) by omega];exact IntWalk.i64_in _ (by omega)
   have hs2:IntKind.i64.wrap (((l.length - 1:Nat):Int) - j)=(m:Nat):=by rw[show ((l.length - 1:Nat):Int) - j=(m:Nat) by omega];exact IntWalk.i64_in _ (by omega)
   obtain ⟨g,rfl,hgb⟩:∃g,LA=some ⟨g,0,none⟩∧B≤g:=by
    rcases own_form HDW.o.row with ⟨_,h⟩ | ⟨g,cr,hLA,hgb⟩
    ·omega
    ·exact ⟨g,by simpa using congrArg (fun v=> match v with | .slice A _ _=> A | _=> none) hLA,hgb⟩
   have HXN:=ZA (show nodeH (l.getD m []) x=cr nodeH l (j+1) y by rw[cr_succ nodeH _ _ _ (by omega),HXE.o,hm]);have HY32:=ZA (HH32.o.getD m hml);have HSY:=ZA (hash_size32 _ HY32.o);have HA:=ZA (fun (w7:World) (h7:Ext wr w7)=> hash_at (CellsAt.row32 (HDW.o.ext h7).row) HH32.o m hml);have HCW:=ZA (fun (w7:World) (h7:Ext wr w7)=> (cell_of_blk (HDW.o.ext h7).blk 2:w7.cell? ⟨b,2,none⟩=some (.slice (some ⟨g,0,none⟩) l.length lc)));clear hm hlo hll hgb;generalize hz0:l.getD m []=z at*;clear hz0;go_wp2_with fail;refine region_inv_tail 16 (fun w'=> Ext wr w') (by kernel_rfl) (by kernel_rfl) (by kernel_rfl) (by kernel_rfl) (by kernel_rfl) (by kernel_rfl) ((Upd.refl none' wr).drew) ?_;simp only[List.take_succ_cons,List.take_zero,List.drop_succ_cons,List.drop_zero];refine inv_move rfl rfl (.pointer (some ⟨b,0,none⟩)) rfl ?_;refine inv_norm (by go_simp;exact rfl) ?_;refine inv_pure (v:= .pointer (some ⟨b,0,none⟩)) rfl (fun w7=> by go_simp) ?_;refine inv_norm (by go_simp;exact rfl) ?_;refine inv_pure (v:= .pointer (some ⟨b,2,none⟩)) rfl (fun w7=> by go_simp) ?_;refine inv_norm (by go_simp;exact rfl) ?_;refine inv_load1 rfl rfl ⟨b,2,none⟩ (.slice (some ⟨g,0,none⟩) l.length lc) rfl Tryz.underlying65 rfl (fun w7 h7=> HCW.o w7 h7) ?_;refine inv_norm (by go_simp;exact rfl) ?_;refine inv_move rfl rfl (.pointer (some ⟨b,0,none⟩)) rfl ?_;refine inv_norm (by go_simp;exact rfl) ?_;refine inv_pure (v:= .pointer (some ⟨b,0,none⟩)) rfl (fun w7=> by go_simp) ?_;refine inv_norm (by go_simp;exact rfl) ?_;refine inv_pure (v:= .pointer (some ⟨b,2,none⟩)) rfl (fun w7=> by go_simp) ?_;refine inv_norm (by go_simp;exact rfl) ?_;refine inv_load1 rfl rfl ⟨b,2,none⟩ (.slice (some ⟨g,0,none⟩) l.length lc) rfl Tryz.underlying65 rfl (fun w7 h7=> HCW.o w7 h7) ?_;refine inv_norm (by go_simp;exact rfl) ?_;refine inv_pure (v:= .int .i64 l.length) rfl (fun w7=> by go_simp) ?_;refine inv_norm (by go_simp;exact rfl) ?_;refine inv_subI rfl rfl .i64 l.length 1 ((l.length - 1:Nat):Int) rfl rfl hs1 ?_;refine inv_norm (by go_simp;exact rfl) ?_;refine inv_move rfl rfl (.int .i64 j) rfl ?_;refine inv_norm (by go_simp;exact rfl) ?_;refine inv_subI rfl rfl .i64 ((l.length - 1:Nat):Int) j (m:Nat) rfl rfl hs2 ?_;refine inv_norm (by go_simp;exact rfl) ?_;refine inv_indexSlice rfl rfl g 0 l.length lc m 32 30 rfl rfl hml Tryz.underlying65 hash_size ?_;refine inv_norm (by go_simp;exact rfl) ?_;refine inv_loadAgg rfl 30 _ rfl g (0+m*32) (by go_simp) (z.map u8v) Tryz.underlying30 rfl HSY.o (fun w7 h7 i v hv=> HA.o w7 h7 i v hv) ?_;refine inv_norm (by go_simp;exact rfl) ?_;refine inv_loadAgg rfl 30 _ rfl w.heap.size 0 rfl (x.map u8v) Tryz.underlying30 rfl HSXX.o (fun w7 h7 i v hv=> blk_cells (Ext.blk h7 HQQ.o) i v hv) ?_;refine inv_norm (by go_simp;exact rfl) ?_;refine inv_call (v:=hashV (nodeH z x)) rfl 36 [.tmp 57,.tmp 58] _ rfl body_node [hashV z,hashV x] rfl (fun w7 h7=> (node_h w7 z x HY32.o HX32.o (by have a1:=HG.o;have a3:=HU.o.size;have a4:=(show Ext wr w7 from h7).size;omega) (HT1.o.ext h7)).mono (by rintro e w8 ⟨rfl,u⟩;exact ⟨rfl,h7.trans u⟩)) ?_;refine inv_norm (by go_simp;exact rfl) ?_;refine inv_nil ?_;intro w5 h5;have HN32:=ZA (show (nodeH z x).length=32 from shaB_len _);have HSN:=ZA (hash_size32 (nodeH z x) HN32.o);have HON:=ZA (u8_ones (nodeH z x));have HLN:=ZA (show (x.map u8v).length=((nodeH z x).map u8v).length by rw[List.length_map,List.length_map,HX32.o,HN32.o]);have HQ5:=ZA (Ext.blk h5 HQQ.o);have H5:=ZA (show Ext wr w5 from h5);have HU3:=ZA ((HU.o.trans (h5.mono (fun _ _ h=> h.elim))).setRow (g:=w.heap.size) (.inl (Nat.le_refl _)) ((nodeH z x).map u8v).toArray);have HQ3:=ZA (blk_setRow HQ5.o ((nodeH z x).map u8v).toArray);have HOW3:=ZA (ownsRow_upd (ownsRow_upd HOW.o h5 (fun _ _=> id)) ((Upd.refl (one w.heap.size) w5).setRow (g:=w.heap.size) (.inr rfl) ((nodeH z x).map u8v).toArray) (fun gg hg e=> by have e2:gg=w.heap.size:=e;have:=(HOW.o.lt gg hg).1;omega))
   clear h5 HCW HA;go_wp2_with (refine store_whole rfl 30 _ _ rfl w.heap.size rfl ((nodeH z x).map u8v) rfl HSN.o _ _ HQ5.o HLN.o HON.o ?_);clear HQ5 HLN;generalize w5.setRow w.heap.size ((nodeH z x).map u8v).toArray=W3 at*;generalize nodeH z x=X at*;obtain ⟨j0,jz,hj0,hjz,hjs,hjb,hjc⟩:=node_parts;have c1:W3.cell? ⟨b,1,none⟩=some (.int .u64 n):=by refine (Upd.cell HU3.o (p:=⟨b,1,none⟩) (lt_of_blk HD0.o.blk) (fun e=> ?_)).trans (cell_of_blk HD0.o.blk 1);have e2:w.heap.size≤b:=e;have:=lt_of_blk HD0.o.blk;omega
   have hj24:j+1≤64:=by have:=HHO.o;have:=HHL.o;omega
   obtain ⟨J,hJ⟩:∃J:Int,J=((j+1:Nat):Int):=⟨_,rfl⟩;obtain ⟨I,hI⟩:∃I:Int,I=((n / 2 ^ (j+1):Nat):Int):=⟨_,rfl⟩;have HND:=ZA (show ndc (j+1) (n / 2 ^ (j+1)) X=ndI J I X by rw[hJ,hI];rfl);have ha1:IntKind.i64.wrap ((j:Int)+1)=J:=by rw[hJ];exact IntWalk.i64_in _ (by omega)
   have ha2:IntKind.u8.wrap J=J:=by rw[IntKind.wrap_u8'];omega
   have ha3:∀w7:World,(do eqGuard .shr 28 (.tmp 67) (.tmp 69) (.int .u64 n) (.int .i64 J);binOp .shr 28 (.int .u64 n) (.int .i64 J):Sem Value).run Tryz.prog w7= .ok (.int .u64 I) w7:=fun w7=> by
    rw[hJ,hI];have e:((n / 2 ^ (j+1):Nat):Int)=(n:Int) / 2 ^ (((j+1:Nat):Int)).toNat:=by simp
    simp only[eqGuard_shr,binOp_shr,Sem.run_bind,Sem.run_pure,Result.andThen_ok];rw[shift_shr_u64 .i64 n ((j+1:Nat):Int) (by omega) (by omega),e];rfl
   have HA3:=ZA ha3;have HSX3:=ZA (hash_size32 X HN32.o);have HNL:=ZA (show (ndI J I X).length=34 by rw[←HND.o];exact ndc_len (j+1) (n / 2 ^ (j+1)) HN32.o);have HLM:=ZA (show j+1+1≤maxLen∧(j+1+1)*48≤140737488355328 by unfold maxLen;omega);have HOA:=ZA (ownsRow_upd HOW3.o (((Upd.refl none' W3).drew).alloc (.cells (ndI J I X).toArray 179)) (fun _ _=> id));have HBB:=ZA (show w.heap.size+1≤(W3.drew.alloc (.cells (ndI J I X).toArray 179)).heap.size by have:=lt_of_blk HQ3.o;simp;omega);have HNW:=ZA (CellsAt.new W3.drew (ndI J I X) 179);have HN1:=ZA (show∀u∈ndI J I X,u.oneCell'=true by rw[←HND.o];exact ndc_one (j+1) (n / 2 ^ (j+1)) X);have HXX:=ZA (show X=cr nodeH l (j+1) y from HXN.o);have HJJ:=ZA hJ;have HBD:=ZA (fun w7:World=> node_build (.int .u8 J) (.int .u64 I) X HN32.o);clear hI ha3 hj24 hJ;refine wp_region_any (by kernel_rfl) ?_;change wpAny _ _ _ _ _ _ _ (World.drew _);refine wpAny_take (i:=0) (v:= .slice vA (j+1) vc) rfl (by kernel_rfl) (by kernel_rfl) (by kernel_rfl) (fun _ _ _ h=> h) (Or.inl ⟨by rfl,fun w7=> by go_simp⟩) ?_;refine any_normQ (by go_simp;all_goals exact rfl) ?_;refine wpAny_take (i:=1) (v:= .int .i64 j) rfl (by kernel_rfl) (by kernel_rfl) (by kernel_rfl) (fun _ _ _ h=> h) (Or.inl ⟨by rfl,fun w7=> by go_simp⟩) ?_;refine any_normQ (by go_simp;all_goals exact rfl) ?_;refine wpAny_take (i:=2) (v:= .int .i64 J) rfl (by kernel_rfl) (by kernel_rfl) (by kernel_rfl) (fun _ _ _ h=> h) (Or.inl ⟨by rfl,fun w7=> by go_simp⟩) ?_;refine any_normQ (by go_simp;all_goals exact rfl) ?_;refine wpAny_take (i:=3) (v:= .int .u8 J) rfl (by kernel_rfl) (by kernel_rfl) (by kernel_rfl) (fun _ _ _ h=> h) (Or.inl ⟨by rfl,fun w7=> by go_simp⟩) ?_;refine any_normQ (by go_simp;all_goals exact rfl) ?_;refine wpAny_take (i:=4) (v:= .pointer (some ⟨b,0,none⟩)) rfl (by kernel_rfl) (by kernel_rfl) (by kernel_rfl) (fun _ _ _ h=> h) (Or.inl ⟨by rfl,fun w7=> by go_simp⟩) ?_;refine any_normQ (by go_simp;all_goals exact rfl) ?_;refine wpAny_take (i:=5) (v:= .pointer (some ⟨b,0,none⟩)) rfl (by kernel_rfl) (by kernel_rfl) (by kernel_rfl) (fun _ _ _ h=> h) (Or.inl ⟨by rfl,fun w7=> by go_simp⟩) ?_;refine any_normQ (by go_simp;all_goals exact rfl) ?_;refine wpAny_take (i:=6) (v:= .pointer (some ⟨b,1,none⟩)) rfl (by kernel_rfl) (by kernel_rfl) (by kernel_rfl) (fun _ _ _ h=> h) (Or.inl ⟨by rfl,fun w7=> by go_simp⟩) ?_;refine any_normQ (by go_simp;all_goals exact rfl) ?_;refine wpAny_take (i:=8) (v:= .int .i64 j) rfl (by kernel_rfl) (by kernel_rfl) (by kernel_rfl) (fun _ _ _ h=> h) (Or.inl ⟨by rfl,fun w7=> by go_simp⟩) ?_;refine any_normQ (by go_simp;all_goals exact rfl) ?_;refine wpAny_take (i:=9) (v:= .int .i64 J) rfl (by kernel_rfl) (by kernel_rfl) (by kernel_rfl) (fun _ _ _ h=> h) (Or.inl ⟨by rfl,fun w7=> by go_simp⟩) ?_;refine any_normQ (by go_simp;all_goals exact rfl) ?_;refine any_seq (t:=3) [7,10,11,12,13] [_,_,_,_,_] (fun w'=> w'=W3.drew) (by kernel_rfl) rfl (by kernel_rfl) (by kernel_rfl) rfl ?_;simp only[List.getElem_toArray,List.getElem_cons_succ,List.getElem_cons_zero];refine inv_load1 rfl rfl ⟨b,1,none⟩ (.int .u64 n) rfl Tryz.underlying28 rfl (fun w7 h7=> by subst h7;exact c1) ?_;refine inv_norm (by go_simp;exact rfl) ?_;refine inv_bin rfl rfl (.int .u64 n) (.int .i64 J) (.int .u64 I) rfl rfl HA3.o ?_;refine inv_norm (by go_simp;exact rfl) ?_;refine inv_pure (v:= .agg #[.int .u8 J,.int .u64 I]) rfl (fun w7=> by go_simp) ?_;refine inv_norm (by go_simp;exact rfl) ?_;refine inv_loadAgg rfl 30 _ rfl w.heap.size 0 rfl (X.map u8v) Tryz.underlying30 rfl HSX3.o (fun w7 h7 i v hv=> by subst h7;exact blk_cells HQ3.o i v hv) ?_;refine inv_norm (by go_simp;exact rfl) ?_;refine inv_pure (v:= .agg (ndI J I X).toArray) rfl (fun w7=> by have hX:=HN32.o;go_simp;exact HBD.o w7) ?_;refine inv_norm (by go_simp;exact rfl) ?_;refine inv_nil ?_;rintro w7 rfl;refine any1 14 (by kernel_rfl) ?_;refine op_buildOneA rfl (by rfl) 173 179 _ rfl (ndI J I X) rfl Tryz.underlying173 (node_size.trans (congrArg some HNL.o.symm)) node_zero (by rw[HNL.o];omega) (by rw[HNL.o];omega) ?_;refine inv_act (by go_simp;exact rfl) ?_;refine any1 15 (by kernel_rfl) ?_;refine op_app1 rfl (by rfl) _ _ 173 rfl (w.heap.size+1) 179 j0 jz 34 48 Tryz.underlying173 hj0 hjz hjs hjb hjc (by decide) (.slice vA (j+1) vc) (j+1) _ rfl HOA.o ⟨W3.heap.size,0,none⟩ 1 1 (ndI J I X) rfl (by rw[HNL.o]) ?_ HN1.o HLM.o.1 HLM.o.2 HBB.o ?_
   ·intro i u hu;obtain ⟨ad,e,hc⟩:=HNW.o i u hu;obtain rfl:=Option.some.inj e;exact hc
   intro v' w' hown hgrow hat;have HST:Hid (AdRel w.heap.size n l y o w v' (.int .i64 J) w'):=ZA (by rw[←HND.o] at hown hgrow;rw[HJJ.o];exact AdRel.step (o:=o) hlt HXX.o HN32.o HQ3.o HOW3.o HU3.o rfl hown hgrow)
   clear hown hgrow hat;refine inv_act (by go_simp;exact rfl) ?_;refine any1 16 (by kernel_rfl) ?_;refine op_asg rfl (by rfl) rfl v' rfl ?_;refine inv_act (by go_simp;exact rfl) ?_;refine wpAny_done (by kernel_rfl) ?_ _;have ha4:J=(j:Int)+1:=HJJ.o;go_wp2_with fail;rw[←ha4];exact ⟨HST.o,by rw[ha4];simp[RowKit.intOf];omega⟩
  ·have hjo:j=o:=by omega
   have hji:¬(j:Int) < o:=by omega
   subst hjo;have hho:=HHO.o;have hhl:=HHL.o;obtain ⟨k,hk⟩:∃k,k=l.length - j:=⟨_,rfl⟩;have hkj:l.length - k=j:=by omega
   have hkl:k≤l.length:=by omega
   have hs3:IntKind.i64.wrap ((l.length:Int) - (j:Int))=(k:Nat):=by rw[show (l.length:Int) - (j:Int)=(k:Nat) by omega];exact IntWalk.i64_in _ (by omega)
   have c2:wr.drew.cell? ⟨b,2,none⟩=some (.slice LA l.length lc):=cell_of_blk HDW.o.blk 2;have HKJ:=ZA hkj;have HKE:=ZA hk;obtain ⟨A13,hA13⟩:∃A13:Option Addr,A13=if lc=k then LA else LA.map (·.add (k*32)):=⟨_,rfl⟩;have HA13:=ZA hA13;clear hho hk hlt hj hA13 hkj;go_wp2_with fail;refine region_inv_tail 12 (fun w'=> w'=wr.drew) (by kernel_rfl) (by kernel_rfl) (by kernel_rfl) (by kernel_rfl) (by kernel_rfl) (by kernel_rfl) rfl ?_;simp only[List.take_succ_cons,List.take_zero,List.drop_succ_cons,List.drop_zero];refine inv_move rfl rfl (.pointer (some ⟨b,0,none⟩)) rfl ?_;refine inv_norm (by go_simp;exact rfl) ?_;refine inv_pure (v:= .pointer (some ⟨b,0,none⟩)) rfl (fun w7=> by go_simp) ?_;refine inv_norm (by go_simp;exact rfl) ?_;refine inv_pure (v:= .pointer (some ⟨b,2,none⟩)) rfl (fun w7=> by go_simp) ?_;refine inv_norm (by go_simp;exact rfl) ?_;refine inv_load1 rfl rfl ⟨b,2,none⟩ (.slice LA l.length lc) rfl Tryz.underlying65 rfl (fun w7 h7=> by subst h7;exact c2) ?_;refine inv_norm (by go_simp;exact rfl) ?_;refine inv_move rfl rfl (.pointer (some ⟨b,0,none⟩)) rfl ?_;refine inv_norm (by go_simp;exact rfl) ?_;refine inv_pure (v:= .pointer (some ⟨b,0,none⟩)) rfl (fun w7=> by go_simp) ?_;refine inv_norm (by go_simp;exact rfl) ?_;refine inv_pure (v:= .pointer (some ⟨b,2,none⟩)) rfl (fun w7=> by go_simp) ?_;refine inv_norm (by go_simp;exact rfl) ?_;refine inv_load1 rfl rfl ⟨b,2,none⟩ (.slice LA l.length lc) rfl Tryz.underlying65 rfl (fun w7 h7=> by subst h7;exact c2) ?_;refine inv_norm (by go_simp;exact rfl) ?_;refine inv_pure (v:= .int .i64 l.length) rfl (fun w7=> by go_simp) ?_;refine inv_norm (by go_simp;exact rfl) ?_;refine inv_move rfl rfl (.int .i64 j) rfl ?_;refine inv_norm (by go_simp;exact rfl) ?_;refine inv_subI rfl rfl .i64 l.length j (k:Nat) rfl rfl hs3 ?_;refine inv_norm (by go_simp;exact rfl) ?_;refine inv_pure (v:= .slice A13 (l.length - k) (lc - k)) rfl (fun w7=> by rw[HA13.o];exact run_slLo w7 rfl LA l.length lc k 32 30 rfl rfl hkl Tryz.underlying65 hash_size) ?_;refine inv_norm (by go_simp;exact rfl) ?_;refine inv_nil ?_;rintro w5 rfl;have HU3:Hid (Upd (fpE b (.slice LA l.length lc)) w wr.drew):=ZA ((HU.o.mono (fun g hg e=> by have e2:w.heap.size≤g:=e;omega)).drew);have hlcL:=row_capL HDW.o.row;have HKC:=ZA (show k≤lc by omega);have HLA:=ZA (row_addr HDW.o.row);by_cases hj0:j=0
   ·have HJ0:=ZA (show l.length - k=0 by have:=HKJ.o;omega);have HR4:Hid (wr.drew.ownsRow B 30 32 (.slice LA k lc) k (hcells (l.take k))):=ZA (by rw[hcells_take k HH32.o];exact row_cutE HDW.o.row hkl);have HB4:Hid (wr.drew.heap[b]? =some (.cells #[.bool true,.int .u64 (n:Int),.slice LA l.length lc] 170 (0,0))):=ZA HDW.o.blk;have HQ4:Hid (wr.drew.heap[w.heap.size]? =some (.cells (x.map u8v).toArray 30 (0,0))):=ZA HQQ.o;have HO4:Hid (wr.drew.ownsRow (w.heap.size+1) 179 34 (.slice vA (j+1) vc) (j+1) (nds n l y j)):=HOW;have HU4:=HU3;clear hj0 c2;go_wp2_with (refine wpList_clear0 rfl _ 65 rfl 30 Tryz.underlying65 A13 (l.length - k) (lc - k) rfl HJ0.o ?_);generalize hW4:wr.drew=W4 at*;have c24:W4.cell? ⟨b,2,none⟩=some (.slice LA l.length lc):=cell_of_blk HB4.o 2;have HC24:=ZA c24;have HSX4:=ZA (hash_size32 x HX32.o);have HXL:=ZA (show (x.map u8v).length=32 by rw[List.length_map];exact HX32.o);have HEX:=ZA (((Upd.refl none' W4).drew).alloc (.cells (x.map u8v).toArray 30));have HR5:=ZA (ownsRow_upd HR4.o HEX.o (fun _ _=> id));have HB5:=ZA (Ext.blk HEX.o HB4.o);have HO5:=ZA (ownsRow_upd HO4.o HEX.o (fun _ _=> id));have HU5:=ZA (HU4.o.drew.alloc (.cells (x.map u8v).toArray 30));have HBW:=ZA (show B≤(W4.drew.alloc (.cells (x.map u8v).toArray 30)).heap.size by have:=lt_of_blk HB5.o;have:=HD0.o.lo;omega);have HNW:=ZA (CellsAt.new W4.drew (x.map u8v) 30);have HX1:=ZA (u8_ones x);have HLM:=ZA (show k+1≤maxLen∧(k+1)*32≤140737488355328 by unfold maxLen;omega);have HC25:=ZA (show (W4.drew.alloc (.cells (x.map u8v).toArray 30)).cell? ⟨b,2,none⟩=some (.slice LA l.length lc) from cell_of_blk HB5.o 2);have HQX:=ZA (Ext.blk HEX.o HQ4.o);clear hW4 c24;go_wp2_with fail;refine wp_region_any (by kernel_rfl) ?_;change wpAny _ _ _ _ _ _ _ (World.drew _);refine wpAny_take (i:=0) (v:= .pointer (some ⟨b,0,none⟩)) rfl (by kernel_rfl) (by kernel_rfl) (by kernel_rfl) (fun _ _ _ h=> h) (Or.inl ⟨by rfl,fun w7=> by go_simp⟩) ?_;refine any_normQ (by go_simp;all_goals exact rfl) ?_;refine wpAny_take (i:=1) (v:= .pointer (some ⟨b,0,none⟩)) rfl (by kernel_rfl) (by kernel_rfl) (by kernel_rfl) (fun _ _ _ h=> h) (Or.inl ⟨by rfl,fun w7=> by go_simp⟩) ?_;refine any_normQ (by go_simp;all_goals exact rfl) ?_;refine wpAny_take (i:=2) (v:= .pointer (some ⟨b,0,none⟩)) rfl (by kernel_rfl) (by kernel_rfl) (by kernel_rfl) (fun _ _ _ h=> h) (Or.inl ⟨by rfl,fun w7=> by go_simp⟩) ?_;refine any_normQ (by go_simp;all_goals exact rfl) ?_;refine wpAny_take (i:=3) (v:= .pointer (some ⟨b,2,none⟩)) rfl (by kernel_rfl) (by kernel_rfl) (by kernel_rfl) (fun _ _ _ h=> h) (Or.inl ⟨by rfl,fun w7=> by go_simp⟩) ?_;refine any_normQ (by go_simp;all_goals exact rfl) ?_;refine wpAny_take (i:=5) (v:= .pointer (some ⟨b,0,none⟩)) rfl (by kernel_rfl) (by kernel_rfl) (by kernel_rfl) (fun _ _ _ h=> h) (Or.inl ⟨by rfl,fun w7=> by go_simp⟩) ?_;refine any_normQ (by go_simp;all_goals exact rfl) ?_;refine wpAny_take (i:=6) (v:= .pointer (some ⟨b,0,none⟩)) rfl (by kernel_rfl) (by kernel_rfl) (by kernel_rfl) (fun _ _ _ h=> h) (Or.inl ⟨by rfl,fun w7=> by go_simp⟩) ?_;refine any_normQ (by go_simp;all_goals exact rfl) ?_;refine wpAny_take (i:=7) (v:= .pointer (some ⟨b,2,none⟩)) rfl (by kernel_rfl) (by kernel_rfl) (by kernel_rfl) (fun _ _ _ h=> h) (Or.inl ⟨by rfl,fun w7=> by go_simp⟩) ?_;refine any_normQ (by go_simp;all_goals exact rfl) ?_;refine wpAny_take (i:=10) (v:= .int .i64 j) rfl (by kernel_rfl) (by kernel_rfl) (by kernel_rfl) (fun _ _ _ h=> h) (Or.inl ⟨by rfl,fun w7=> by go_simp⟩) ?_;refine any_normQ (by go_simp;all_goals exact rfl) ?_;refine any_seqM (t:=4) 14 (W4.drew.alloc (.cells (x.map u8v).toArray 30)) [4,8,9,11,12,13,14] [_,_,_,_,_,_,_] (by kernel_rfl) rfl (by kernel_rfl) (by kernel_rfl) (by kernel_rfl) (by kernel_rfl) ?_;simp only[List.getElem_toArray,List.getElem_cons_succ,List.getElem_cons_zero];refine m_read (v:= .slice LA l.length lc) rfl (by decide) (run_ld1 _ rfl ⟨b,2,none⟩ _ rfl Tryz.underlying65 rfl HC24.o) (run_ld1 _ rfl ⟨b,2,none⟩ _ rfl Tryz.underlying65 rfl HC25.o) ?_;refine m_norm (by go_simp;exact rfl) ?_;refine m_read (v:= .slice LA l.length lc) rfl (by decide) (run_ld1 _ rfl ⟨b,2,none⟩ _ rfl Tryz.underlying65 rfl HC24.o) (run_ld1 _ rfl ⟨b,2,none⟩ _ rfl Tryz.underlying65 rfl HC25.o) ?_;refine m_norm (by go_simp;exact rfl) ?_;refine m_read (v:= .int .i64 l.length) rfl (by decide) (by go_simp) (by go_simp) ?_;refine m_norm (by go_simp;exact rfl) ?_;refine m_read (v:= .int .i64 (k:Nat)) rfl (by decide) (by go_simp) (by go_simp) ?_;refine m_norm (by go_simp;exact rfl) ?_;refine m_read (v:= .slice LA k lc) rfl (by decide) (run_slHi _ rfl LA l.length lc k 32 30 rfl HLA.o rfl HKC.o Tryz.underlying65 hash_size) (run_slHi _ rfl LA l.length lc k 32 30 rfl HLA.o rfl HKC.o Tryz.underlying65 hash_size) ?_;refine m_norm (by go_simp;exact rfl) ?_;refine m_read (v:= .agg (x.map u8v).toArray) rfl (by decide) (run_ld _ 30 _ rfl w.heap.size 0 rfl (x.map u8v) Tryz.underlying30 rfl HSX4.o (fun i v hv=> blk_cells HQ4.o i v hv)) (run_ld _ 30 _ rfl w.heap.size 0 rfl (x.map u8v) Tryz.underlying30 rfl HSX4.o (fun i v hv=> blk_cells HQX.o i v hv)) ?_;refine m_norm (by go_simp;exact rfl) ?_;refine m_make (v:= .slice (some ⟨W4.heap.size,0,none⟩) 1 1) rfl (run_buildOneA _ 65 30 _ rfl (x.map u8v) rfl Tryz.underlying65 (hash_size.trans (congrArg some HXL.o.symm)) hash_zero (by rw[HXL.o];omega) (by rw[HXL.o];omega)) ?_;refine m_norm (by go_simp;exact rfl) ?_;refine m_nil ?_;refine any1 15 (by kernel_rfl) ?_;refine op_app1 rfl (by rfl) _ _ 65 rfl B 30 i0 _ 32 32 Tryz.underlying65 hi0 hz0 hz1 hz2 rfl (by decide) (.slice LA k lc) k _ rfl HR5.o ⟨W4.heap.size,0,none⟩ 1 1 (x.map u8v) rfl (by rw[HXL.o]) ?_ HX1.o HLM.o.1 HLM.o.2 HBW.o ?_
    ·intro i u hu;obtain ⟨ad,e,hc⟩:=HNW.o i u hu;obtain rfl:=Option.some.inj e;exact hc
    intro v' w6 hown hgrow hat;have HOWN:=ZA hown;have HOB:=ZA (show (Value.slice LA k lc).ownBlock=(Value.slice LA l.length lc).ownBlock by cases LA <;> rfl);have HAT:Hid (∀g,v'.ownBlock=some g→(Value.slice LA l.length lc).ownBlock=some g∨w.heap.size≤g):=ZA (fun g hg=> by
     rcases hat with e | e
     ·left;rw[e,HOB.o] at hg;exact hg
     ·right;rw[e] at hg;obtain rfl:=Option.some.inj hg;have:=HU5.o.size;simp at this⊢;omega)
    have hne:∀g,(Value.slice LA k lc).ownBlock=some g→g≠b:=rowNe HR5.o HB5.o (by decide);have HB6:Hid (w6.heap[b]? =some (.cells #[.bool true,.int .u64 (n:Int),.slice LA l.length lc] 170 (0,0))):=ZA ((hgrow.block b (lt_of_blk HB5.o) (fun e=> hne b e.symm rfl)).trans HB5.o);have HO6:Hid (w6.ownsRow (w.heap.size+1) 179 34 (.slice vA (j+1) vc) (j+1) (nds n l y j)):=ZA (ownsRow_upd (T:=fun g=> (Value.slice LA k lc).ownBlock=some g) HO5.o ((Upd.refl _ _).grown hgrow (fun g hg=> .inr hg)) (fun g hg e=> by have h1:=(HO5.o.lt g hg).1;have h2:=(HD0.o.row.lt g (HOB.o.symm.trans e)).2;omega))
    have HU6:Hid (Upd (fpE b (.slice LA l.length lc)) w w6):=ZA (HU5.o.grown hgrow (fun g hg=> .inr (.inr (HOB.o.symm.trans hg))));clear hgrow hat hne hown;refine inv_act (by go_simp;exact rfl) ?_;refine any1 16 (by kernel_rfl) ?_;refine op_val (v:= .pointer (some ⟨b,0,none⟩)) (w':=w6) rfl (by rfl) (by go_simp) ?_;refine inv_act (by go_simp;exact rfl) ?_;refine any1 17 (by kernel_rfl) ?_;refine op_val (v:= .pointer (some ⟨b,2,none⟩)) (w':=w6) rfl (by rfl) (by go_simp) ?_;refine inv_act (by go_simp;exact rfl) ?_;refine any1 18 (by kernel_rfl) ?_;refine op_store1 rfl (by rfl) 65 _ _ rfl ⟨b,2,none⟩ rfl v' rfl (own_cells HOWN.o) (own_oneA HOWN.o) size_hashes _ (cell_of_blk HB6.o 2) (free_of_blk HB6.o 2) ?_;have HB7:=ZA (blk_set HB6.o 2 v');have HO7:=ZA (ownsRow_upd (T:=one b) HO6.o ((Upd.refl (one b) w6).setCell (p:=⟨b,2,none⟩) (.inr rfl) v') (fun g hg e=> by have h1:=(HO6.o.lt g hg).1;have e2:g=b:=e;have:=lt_of_blk HD0.o.blk;omega))
    have HR7:=ZA (ownsRow_upd (T:=one b) HOWN.o ((Upd.refl (one b) w6).setCell (p:=⟨b,2,none⟩) (.inr rfl) v') (fun g hg e=> rowNe HOWN.o HB6.o (by decide) g hg e));have HU7:=ZA (HU6.o.setCell (p:=⟨b,2,none⟩) (.inr (.inl rfl)) v');generalize w6.setCell ⟨b,2,none⟩ v'=w7 at*;refine inv_act (by go_simp;exact rfl) ?_;refine wpAny_done (by kernel_rfl) ?_ _;have c17:w7.cell? ⟨b,1,none⟩=some (.int .u64 n):=cell_of_blk HB7.o 1;have f17:=free_of_blk HB7.o 1;have hn1:IntKind.u64.wrap ((n:Int)+1)=((n+1:Nat):Int):=by rw[IntKind.wrap_u64];have:=HHN.o;omega
    go_wp2_with fail;go_ret2;have hkk:=HKE.o;have hxe:=HXE.o;rw[hoo];refine ⟨.slice vA (j+1) vc,v',rfl,?_,⟨?_,?_,HD0.o.lo⟩,HAT.o,?_⟩
    ·exact ownLow (ownsRow_upd (T:=one b) HO7.o ((Upd.refl (one b) w7).setCell (p:=⟨b,1,none⟩) (.inr rfl) _) (fun g hg e=> by have h1:=(HO7.o.lt g hg).1;have e2:g=b:=e;have:=lt_of_blk HD0.o.blk;omega)) (Nat.le_succ _)
    ·exact blk_set HB7.o 1 _
    ·rw[←hkk,←hxe];have e1:(l.take k++ [x]).length=k+1:=by simp;omega
     have e2:hcells (l.take k++ [x])=hcells (l.take k)++x.map u8v:=by simp[hcells]
     rw[e1,e2];exact ownsRow_upd (T:=one b) HR7.o ((Upd.refl (one b) w7).setCell (p:=⟨b,1,none⟩) (.inr rfl) _) (fun g hg e=> rowNe HR7.o HB7.o (by decide) g hg e)
    ·exact HU7.o.setCell (p:=⟨b,1,none⟩) (.inr (.inl rfl)) _
   ·obtain ⟨gA,hg0⟩:∃g,LA=some ⟨g,0,none⟩:=by
     rcases own_form HDW.o.row with ⟨_,h⟩ | ⟨g,cr,hLA,hgb⟩
     ·have:=HKJ.o;omega
     ·exact ⟨g,by simpa using congrArg (fun v=> match v with | .slice A _ _=> A | _=> none) hLA⟩
    subst hg0;have hA:A13=some ⟨gA,k*32,none⟩:=by have:=HKJ.o;rw[HA13.o,if_neg (by omega)];simp only[Option.map_some,Addr.add_lit,Nat.zero_add]
    subst hA;obtain ⟨cur,hcur,hlen,hcut⟩:=row_cut_over (m:=k) (HDW.o.ext ((Upd.refl none' wr).drew)).row hkl;have HGB:=ZA (rowNe HDW.o.row HDW.o.blk (by decide) gA rfl);have HGQ:=ZA ((HD0.o.row.lt gA rfl).2);have HCUR:=ZA hcur;have HCUT:=ZA hcut;have HFIT:=ZA (show k*32+(l.length - k)*(Value.agg zero32).cells.size≤cur.length by show k*32+(l.length - k)*32≤cur.length;omega);have HKJ2:=ZA hkl;clear hj0 c2 hcur hlen hcut HA13;go_wp2_with ((refine wpList_clear rfl _ 65 rfl 30 i0 _ Tryz.underlying65 hi0 hz0 zero_oneC gA (k*32) (l.length - k) (lc - k) cur 30 rfl HCUR.o HFIT.o ?_);intro vs hvs;have HVS:=ZA hvs;clear hvs);have HR4:Hid ((wr.drew.setRow gA (over cur (k*32) vs).toArray).ownsRow B 30 32 (.slice (some ⟨gA,0,none⟩) k lc) k (hcells (l.take k))):=ZA (by rw[hcells_take k HH32.o];exact HCUT.o vs (by rw[HVS.o];exact HFIT.o))
    have HB4:Hid ((wr.drew.setRow gA (over cur (k*32) vs).toArray).heap[b]? =some (.cells #[.bool true,.int .u64 (n:Int),.slice (some ⟨gA,0,none⟩) l.length lc] 170 (0,0))):=ZA (blk_setRow_ne (w:=wr.drew) HDW.o.blk HGB.o.symm _);have HQ4:Hid ((wr.drew.setRow gA (over cur (k*32) vs).toArray).heap[w.heap.size]? =some (.cells (x.map u8v).toArray 30 (0,0))):=ZA (blk_setRow_ne (w:=wr.drew) HQQ.o (by have:=HGQ.o;omega) _);have HO4:Hid ((wr.drew.setRow gA (over cur (k*32) vs).toArray).ownsRow (w.heap.size+1) 179 34 (.slice vA (j+1) vc) (j+1) (nds n l y j)):=ZA (ownsRow_upd (T:=one gA) HOW.o (((Upd.refl (one gA) wr).drew).setRow (.inr rfl) _) (fun gg hg e=> by have h1:=(HOW.o.lt gg hg).1;have e2:gg=gA:=e;have:=HGQ.o;omega))
    have HU4:=ZA (HU3.o.setRow (g:=gA) (.inr (.inr rfl)) (over cur (k*32) vs).toArray);generalize hW4:wr.drew.setRow gA (over cur (k*32) vs).toArray=W4 at*;have c24:W4.cell? ⟨b,2,none⟩=some (.slice (some ⟨gA,0,none⟩) l.length lc):=cell_of_blk HB4.o 2;have HC24:=ZA c24;have HSX4:=ZA (hash_size32 x HX32.o);have HXL:=ZA (show (x.map u8v).length=32 by rw[List.length_map];exact HX32.o);have HEX:=ZA (((Upd.refl none' W4).drew).alloc (.cells (x.map u8v).toArray 30));have HR5:=ZA (ownsRow_upd HR4.o HEX.o (fun _ _=> id));have HB5:=ZA (Ext.blk HEX.o HB4.o);have HO5:=ZA (ownsRow_upd HO4.o HEX.o (fun _ _=> id));have HU5:=ZA (HU4.o.drew.alloc (.cells (x.map u8v).toArray 30));have HBW:=ZA (show B≤(W4.drew.alloc (.cells (x.map u8v).toArray 30)).heap.size by have:=lt_of_blk HB5.o;have:=HD0.o.lo;omega);have HNW:=ZA (CellsAt.new W4.drew (x.map u8v) 30);have HX1:=ZA (u8_ones x);have HLM:=ZA (show k+1≤maxLen∧(k+1)*32≤140737488355328 by unfold maxLen;omega);have HC25:=ZA (show (W4.drew.alloc (.cells (x.map u8v).toArray 30)).cell? ⟨b,2,none⟩=some (.slice (some ⟨gA,0,none⟩) l.length lc) from cell_of_blk HB5.o 2);have HQX:=ZA (Ext.blk HEX.o HQ4.o);clear hW4 c24;go_wp2_with fail;refine wp_region_any (by kernel_rfl) ?_;change wpAny _ _ _ _ _ _ _ (World.drew _);refine wpAny_take (i:=0) (v:= .pointer (some ⟨b,0,none⟩)) rfl (by kernel_rfl) (by kernel_rfl) (by kernel_rfl) (fun _ _ _ h=> h) (Or.inl ⟨by rfl,fun w7=> by go_simp⟩) ?_;refine any_normQ (by go_simp;all_goals exact rfl) ?_;refine wpAny_take (i:=1) (v:= .pointer (some ⟨b,0,none⟩)) rfl (by kernel_rfl) (by kernel_rfl) (by kernel_rfl) (fun _ _ _ h=> h) (Or.inl ⟨by rfl,fun w7=> by go_simp⟩) ?_;refine any_normQ (by go_simp;all_goals exact rfl) ?_;refine wpAny_take (i:=2) (v:= .pointer (some ⟨b,0,none⟩)) rfl (by kernel_rfl) (by kernel_rfl) (by kernel_rfl) (fun _ _ _ h=> h) (Or.inl ⟨by rfl,fun w7=> by go_simp⟩) ?_;refine any_normQ (by go_simp;all_goals exact rfl) ?_;refine wpAny_take (i:=3) (v:= .pointer (some ⟨b,2,none⟩)) rfl (by kernel_rfl) (by kernel_rfl) (by kernel_rfl) (fun _ _ _ h=> h) (Or.inl ⟨by rfl,fun w7=> by go_simp⟩) ?_;refine any_normQ (by go_simp;all_goals exact rfl) ?_;refine wpAny_take (i:=5) (v:= .pointer (some ⟨b,0,none⟩)) rfl (by kernel_rfl) (by kernel_rfl) (by kernel_rfl) (fun _ _ _ h=> h) (Or.inl ⟨by rfl,fun w7=> by go_simp⟩) ?_;refine any_normQ (by go_simp;all_goals exact rfl) ?_;refine wpAny_take (i:=6) (v:= .pointer (some ⟨b,0,none⟩)) rfl (by kernel_rfl) (by kernel_rfl) (by kernel_rfl) (fun _ _ _ h=> h) (Or.inl ⟨by rfl,fun w7=> by go_simp⟩) ?_;refine any_normQ (by go_simp;all_goals exact rfl) ?_;refine wpAny_take (i:=7) (v:= .pointer (some ⟨b,2,none⟩)) rfl (by kernel_rfl) (by kernel_rfl) (by kernel_rfl) (fun _ _ _ h=> h) (Or.inl ⟨by rfl,fun w7=> by go_simp⟩) ?_;refine any_normQ (by go_simp;all_goals exact rfl) ?_;refine wpAny_take (i:=10) (v:= .int .i64 j) rfl (by kernel_rfl) (by kernel_rfl) (by kernel_rfl) (fun _ _ _ h=> h) (Or.inl ⟨by rfl,fun w7=> by go_simp⟩) ?_;refine any_normQ (by go_simp;all_goals exact rfl) ?_;refine any_seqM (t:=4) 14 (W4.drew.alloc (.cells (x.map u8v).toArray 30)) [4,8,9,11,12,13,14] [_,_,_,_,_,_,_] (by kernel_rfl) rfl (by kernel_rfl) (by kernel_rfl) (by kernel_rfl) (by kernel_rfl) ?_;simp only[List.getElem_toArray,List.getElem_cons_succ,List.getElem_cons_zero];refine m_read (v:= .slice (some ⟨gA,0,none⟩) l.length lc) rfl (by decide) (run_ld1 _ rfl ⟨b,2,none⟩ _ rfl Tryz.underlying65 rfl HC24.o) (run_ld1 _ rfl ⟨b,2,none⟩ _ rfl Tryz.underlying65 rfl HC25.o) ?_;refine m_norm (by go_simp;exact rfl) ?_;refine m_read (v:= .slice (some ⟨gA,0,none⟩) l.length lc) rfl (by decide) (run_ld1 _ rfl ⟨b,2,none⟩ _ rfl Tryz.underlying65 rfl HC24.o) (run_ld1 _ rfl ⟨b,2,none⟩ _ rfl Tryz.underlying65 rfl HC25.o) ?_;refine m_norm (by go_simp;exact rfl) ?_;refine m_read (v:= .int .i64 l.length) rfl (by decide) (by go_simp) (by go_simp) ?_;refine m_norm (by go_simp;exact rfl) ?_;refine m_read (v:= .int .i64 (k:Nat)) rfl (by decide) (by go_simp) (by go_simp) ?_;refine m_norm (by go_simp;exact rfl) ?_;refine m_read (v:= .slice (some ⟨gA,0,none⟩) k lc) rfl (by decide) (run_slHi _ rfl (some ⟨gA,0,none⟩) l.length lc k 32 30 rfl HLA.o rfl HKC.o Tryz.underlying65 hash_size) (run_slHi _ rfl (some ⟨gA,0,none⟩) l.length lc k 32 30 rfl HLA.o rfl HKC.o Tryz.underlying65 hash_size) ?_;refine m_norm (by go_simp;exact rfl) ?_;refine m_read (v:= .agg (x.map u8v).toArray) rfl (by decide) (run_ld _ 30 _ rfl w.heap.size 0 rfl (x.map u8v) Tryz.underlying30 rfl HSX4.o (fun i v hv=> blk_cells HQ4.o i v hv)) (run_ld _ 30 _ rfl w.heap.size 0 rfl (x.map u8v) Tryz.underlying30 rfl HSX4.o (fun i v hv=> blk_cells HQX.o i v hv)) ?_;refine m_norm (by go_simp;exact rfl) ?_;refine m_make (v:= .slice (some ⟨W4.heap.size,0,none⟩) 1 1) rfl (run_buildOneA _ 65 30 _ rfl (x.map u8v) rfl Tryz.underlying65 (hash_size.trans (congrArg some HXL.o.symm)) hash_zero (by rw[HXL.o];omega) (by rw[HXL.o];omega)) ?_;refine m_norm (by go_simp;exact rfl) ?_;refine m_nil ?_;refine any1 15 (by kernel_rfl) ?_;refine op_app1 rfl (by rfl) _ _ 65 rfl B 30 i0 _ 32 32 Tryz.underlying65 hi0 hz0 hz1 hz2 rfl (by decide) (.slice (some ⟨gA,0,none⟩) k lc) k _ rfl HR5.o ⟨W4.heap.size,0,none⟩ 1 1 (x.map u8v) rfl (by rw[HXL.o]) ?_ HX1.o HLM.o.1 HLM.o.2 HBW.o ?_
    ·intro i u hu;obtain ⟨ad,e,hc⟩:=HNW.o i u hu;obtain rfl:=Option.some.inj e;exact hc
    intro v' w6 hown hgrow hat;have HOWN:=ZA hown;have HOB:=ZA (show (Value.slice (some ⟨gA,0,none⟩) k lc).ownBlock=(Value.slice (some ⟨gA,0,none⟩) l.length lc).ownBlock by rfl);have HAT:Hid (∀g,v'.ownBlock=some g→(Value.slice (some ⟨gA,0,none⟩) l.length lc).ownBlock=some g∨w.heap.size≤g):=ZA (fun g hg=> by
     rcases hat with e | e
     ·left;rw[e,HOB.o] at hg;exact hg
     ·right;rw[e] at hg;obtain rfl:=Option.some.inj hg;have:=HU5.o.size;simp at this⊢;omega)
    have hne:∀g,(Value.slice (some ⟨gA,0,none⟩) k lc).ownBlock=some g→g≠b:=rowNe HR5.o HB5.o (by decide);have HB6:Hid (w6.heap[b]? =some (.cells #[.bool true,.int .u64 (n:Int),.slice (some ⟨gA,0,none⟩) l.length lc] 170 (0,0))):=ZA ((hgrow.block b (lt_of_blk HB5.o) (fun e=> hne b e.symm rfl)).trans HB5.o);have HO6:Hid (w6.ownsRow (w.heap.size+1) 179 34 (.slice vA (j+1) vc) (j+1) (nds n l y j)):=ZA (ownsRow_upd (T:=fun g=> (Value.slice (some ⟨gA,0,none⟩) k lc).ownBlock=some g) HO5.o ((Upd.refl _ _).grown hgrow (fun g hg=> .inr hg)) (fun g hg e=> by have h1:=(HO5.o.lt g hg).1;have h2:=(HD0.o.row.lt g (HOB.o.symm.trans e)).2;omega))
    have HU6:Hid (Upd (fpE b (.slice (some ⟨gA,0,none⟩) l.length lc)) w w6):=ZA (HU5.o.grown hgrow (fun g hg=> .inr (.inr (HOB.o.symm.trans hg))));clear hgrow hat hne hown;refine inv_act (by go_simp;exact rfl) ?_;refine any1 16 (by kernel_rfl) ?_;refine op_val (v:= .pointer (some ⟨b,0,none⟩)) (w':=w6) rfl (by rfl) (by go_simp) ?_;refine inv_act (by go_simp;exact rfl) ?_;refine any1 17 (by kernel_rfl) ?_;refine op_val (v:= .pointer (some ⟨b,2,none⟩)) (w':=w6) rfl (by rfl) (by go_simp) ?_;refine inv_act (by go_simp;exact rfl) ?_;refine any1 18 (by kernel_rfl) ?_;refine op_store1 rfl (by rfl) 65 _ _ rfl ⟨b,2,none⟩ rfl v' rfl (own_cells HOWN.o) (own_oneA HOWN.o) size_hashes _ (cell_of_blk HB6.o 2) (free_of_blk HB6.o 2) ?_;have HB7:=ZA (blk_set HB6.o 2 v');have HO7:=ZA (ownsRow_upd (T:=one b) HO6.o ((Upd.refl (one b) w6).setCell (p:=⟨b,2,none⟩) (.inr rfl) v') (fun g hg e=> by have h1:=(HO6.o.lt g hg).1;have e2:g=b:=e;have:=lt_of_blk HD0.o.blk;omega))
    have HR7:=ZA (ownsRow_upd (T:=one b) HOWN.o ((Upd.refl (one b) w6).setCell (p:=⟨b,2,none⟩) (.inr rfl) v') (fun g hg e=> rowNe HOWN.o HB6.o (by decide) g hg e));have HU7:=ZA (HU6.o.setCell (p:=⟨b,2,none⟩) (.inr (.inl rfl)) v');generalize w6.setCell ⟨b,2,none⟩ v'=w7 at*;refine inv_act (by go_simp;exact rfl) ?_;refine wpAny_done (by kernel_rfl) ?_ _;have c17:w7.cell? ⟨b,1,none⟩=some (.int .u64 n):=cell_of_blk HB7.o 1;have f17:=free_of_blk HB7.o 1;have hn1:IntKind.u64.wrap ((n:Int)+1)=((n+1:Nat):Int):=by rw[IntKind.wrap_u64];have:=HHN.o;omega
    go_wp2_with fail;go_ret2;have hkk:=HKE.o;have hxe:=HXE.o;rw[hoo];refine ⟨.slice vA (j+1) vc,v',rfl,?_,⟨?_,?_,HD0.o.lo⟩,HAT.o,?_⟩
    ·exact ownLow (ownsRow_upd (T:=one b) HO7.o ((Upd.refl (one b) w7).setCell (p:=⟨b,1,none⟩) (.inr rfl) _) (fun g hg e=> by have h1:=(HO7.o.lt g hg).1;have e2:g=b:=e;have:=lt_of_blk HD0.o.blk;omega)) (Nat.le_succ _)
    ·exact blk_set HB7.o 1 _
    ·rw[←hkk,←hxe];have e1:(l.take k++ [x]).length=k+1:=by simp;omega
     have e2:hcells (l.take k++ [x])=hcells (l.take k)++x.map u8v:=by simp[hcells]
     rw[e1,e2];exact ownsRow_upd (T:=one b) HR7.o ((Upd.refl (one b) w7).setCell (p:=⟨b,1,none⟩) (.inr rfl) _) (fun g hg e=> rowNe HR7.o HB7.o (by decide) g hg e)
    ·exact HU7.o.setCell (p:=⟨b,1,none⟩) (.inr (.inl rfl)) _
abbrev nilS:Value:= .slice none 0 0
structure LaidD where
 k:Nat
 i:Nat
 wd:Nat
 hs:List HB
 v:Value
def laidC(x:LaidD):List Value:= [.int .u8 x.k,.int .u64 x.i,.int .i64 x.wd,x.v]
def laidCs(l:List LaidD):List Value:=(l.map laidC).flatten
structure GrV where
 bb:Nat
 lv:Value
 ev:Value
 dv:Value
 tv:Value
 vs:List Value
 dvs:List Value
structure GrD where
 n:Nat
 l:List HB
 es:List (List HB)
 ls:List (List LaidD)
 ts:List Bool
structure GrAt (B:Nat) (w:World) (gb:Nat) (V:GrV) (D:GrD):Prop where
 low:B≤gb
 blk:w.heap[gb]? =some (.cells #[.pointer (some ⟨V.bb,0,none⟩),V.ev,V.dv,V.tv] 106 (0,0))
 bld:BldAt B w V.bb V.lv D.n D.l
 er:w.ownsRow B 65 1 V.ev D.es.length V.vs
 ee:∀k,w.ownsRow B 30 32 (V.vs.getD k nilS) (D.es.getD k []).length (hcells (D.es.getD k []))
 dr:w.ownsRow B 112 1 V.dv D.ls.length V.dvs
 de:∀k,w.ownsRow B 117 4 (V.dvs.getD k nilS) (D.ls.getD k []).length (laidCs (D.ls.getD k []))
 lh:∀k,∀x∈D.ls.getD k [],w.ownsRow B 30 32 x.v x.hs.length (hcells x.hs)
 tr:w.ownsRow B 4 1 V.tv D.ts.length (D.ts.map Value.bool)
 len:D.ls.length=D.ts.length
 ape:∀j k g,j≠k→(V.vs.getD j nilS).ownBlock=some g→(V.vs.getD k nilS).ownBlock≠some g
 apl:∀k g,V.lv.ownBlock=some g→(V.vs.getD k nilS).ownBlock≠some g
 aph:∀k,∀x∈D.ls.getD k [],∀g,x.v.ownBlock=some g→V.lv.ownBlock≠some g∧∀j,(V.vs.getD j nilS).ownBlock≠some g
 apd:∀j k g,j≠k→(V.dvs.getD j nilS).ownBlock=some g→(V.dvs.getD k nilS).ownBlock≠some g
def TyIn(S:Nat→Prop)(w:World)(T:TypeId):Prop:=∀g,S g→∃c f,w.heap[g]? =some (.cells c T f)
theorem own_ty{S:Nat→Prop}{w w':World}{T:TypeId}{B e size n:Nat}{v:Value}{xs:List Value}(h:w.ownsRow B e size v n xs)(u:Upd S w w')(hS:TyIn S w T)(hne:e≠T):w'.ownsRow B e size v n xs:=
 ownsRow_upd h u (fun g hg hs=> by obtain ⟨c,f,hc⟩:=hS g hs;exact rowNe h hc hne g hg rfl)
theorem blk_ty{S:Nat→Prop}{w w':World}{T:TypeId}{b:Nat}{cs:Array Value}{t:TypeId}{f:Nat×Nat}(h:w.heap[b]? =some (.cells cs t f))(u:Upd S w w')(hS:TyIn S w T)(hne:t≠T):w'.heap[b]? =some (.cells cs t f):=
 u.blk h (fun hs=> by obtain ⟨c,f',hc⟩:=hS b hs;exact tyNe h hc hne rfl)
theorem tyIn_one{w:World}{g:Nat}{c:Array Value}{T:TypeId}{f:Nat×Nat}(h:w.heap[g]? =some (.cells c T f)):TyIn (one g) w T:=fun k hk=> by have e:k=g:=hk;subst e;exact ⟨_,_,h⟩
theorem tyIn_row{w:World}{B e size n:Nat}{v:Value}{xs:List Value}(h:w.ownsRow B e size v n xs):TyIn (fun g=> v.ownBlock=some g) w e:=fun g hg=> by obtain ⟨c,hc⟩:=rowT h hg;exact ⟨c,_,hc⟩
theorem row_set{w:World}{B e n g c:Nat}{xs:List Value}(h:w.ownsRow B e 1 (.slice (some ⟨g,0,none⟩) n c) n xs)(k:Nat)(hk:k < n)(v:Value):(w.setCell ⟨g,k,none⟩ v).ownsRow B e 1 (.slice (some ⟨g,0,none⟩) n c) n (xs.set k v):=by
 have hl:=h.1;rcases h.2 with ⟨hv,_⟩ | ⟨g',cap,cur,hv,hb,hg,hnc,hcm,hcs,ht⟩
 ·cases hv
 ·simp only[Value.slice.injEq,Option.some.injEq,Addr.mk.injEq,true_and,and_true] at hv;obtain ⟨rfl,rfl⟩:=hv;refine ⟨by rw[List.length_set];exact hl,.inr ⟨g,c,_,rfl,hb,blk_set hg k v,hnc,hcm,by simpa using hcs,?_⟩⟩;rw[←ht];simp[List.take_set]
def TysIn(S:Nat→Prop)(w:World)(Ts:List TypeId):Prop:=∀g,g < w.heap.size→S g→∃c T f,T∈Ts∧w.heap[g]? =some (.cells c T f)
theorem own_tys{S:Nat→Prop}{w w':World}{Ts:List TypeId}{B e size n:Nat}{v:Value}{xs:List Value}(h:w.ownsRow B e size v n xs)(u:Upd S w w')(hS:TysIn S w Ts)(hne:e∉Ts):w'.ownsRow B e size v n xs:=
 ownsRow_upd h u (fun g hg hs=> by obtain ⟨c,T,f,hT,hc⟩:=hS g (h.lt g hg).2 hs;exact rowNe h hc (fun e=> hne (e▸hT)) g hg rfl)
theorem blk_tys{S:Nat→Prop}{w w':World}{Ts:List TypeId}{b:Nat}{cs:Array Value}{t:TypeId}{f:Nat×Nat}(h:w.heap[b]? =some (.cells cs t f))(u:Upd S w w')(hS:TysIn S w Ts)(hne:t∉Ts):w'.heap[b]? =some (.cells cs t f):=
 u.blk h (fun hs=> by obtain ⟨c,T,f',hT,hc⟩:=hS b (lt_of_blk h) hs;exact tyNe h hc (fun e=> hne (e▸hT)) rfl)
theorem tys_none{w:World}:TysIn none' w []:=fun g _ h=> h.elim
theorem BldAt.tys{S:Nat→Prop}{w w':World}{Ts:List TypeId}{B b n:Nat}{lv:Value}{l:List HB}(h:BldAt B w b lv n l)(u:Upd S w w')(hS:TysIn S w Ts)(h1:170∉Ts)(h2:30∉Ts):BldAt B w' b lv n l:=
 ⟨blk_tys h.blk u hS h1,own_tys h.row u hS h2,h.lo⟩
section
variable {B gb:Nat} {w w':World} {V:GrV} {D:GrD} {S:Nat→Prop} {Ts:List TypeId}
theorem GrAt.tys(h:GrAt B w gb V D)(u:Upd S w w')(hS:TysIn S w Ts)(h1:106∉Ts)(h2:170∉Ts)(h3:30∉Ts)(h4:65∉Ts)(h5:112∉Ts)(h6:117∉Ts)(h7:4∉Ts):GrAt B w' gb V D:=
 ⟨h.low,blk_tys h.blk u hS h1,h.bld.tys u hS h2 h3,own_tys h.er u hS h4,fun k=> own_tys (h.ee k) u hS h3,own_tys h.dr u hS h5,fun k=> own_tys (h.de k) u hS h6,fun k x hx=> own_tys (h.lh k x hx) u hS h3,own_tys h.tr u hS h7,h.len,h.ape,h.apl,h.aph,h.apd⟩
theorem GrAt.ext(h:GrAt B w gb V D)(u:Ext w w'):GrAt B w' gb V D:=h.tys u tys_none (by simp) (by simp) (by simp) (by simp) (by simp) (by simp) (by simp)
theorem GrAt.add{lv':Value}{n':Nat}{l':List HB}(h:GrAt B w gb V D)(u:Upd (fpE V.bb V.lv) w w')(hb:BldAt B w' V.bb lv' n' l')(hat:∀g,lv'.ownBlock=some g→V.lv.ownBlock=some g∨w.heap.size≤g):
 GrAt B w' gb {V with lv:=lv'} {D with n:=n',l:=l'}:=by
 have hS:TysIn (fpE V.bb V.lv) w [170,30]:=fun g _ hg=> by
  rcases hg with e | e
  ·have e2:g=V.bb:=e;subst e2;exact ⟨_,_,_,by simp,h.bld.blk⟩
  ·obtain ⟨c,hc⟩:=rowT h.bld.row e;exact ⟨_,_,_,by simp,hc⟩
 have hrow:∀{v:Value} {n:Nat} {xs:List Value},w.ownsRow B 30 32 v n xs→(∀g,v.ownBlock=some g→V.lv.ownBlock≠some g)→w'.ownsRow B 30 32 v n xs:=fun hr hn=>
  ownsRow_upd hr u (fun g hg hs=> by
   rcases hs with e | e
   ·have e2:g=V.bb:=e;exact rowNe hr h.bld.blk (by decide) g hg e2
   ·exact hn g hg e)
 refine ⟨h.low,blk_tys h.blk u hS (by decide),hb,own_tys h.er u hS (by decide),fun k=> hrow (h.ee k) (fun g hg e=> h.apl k g e hg),own_tys h.dr u hS (by decide),fun k=> own_tys (h.de k) u hS (by decide),fun k x hx=> hrow (h.lh k x hx) (fun g hg=> (h.aph k x hx g hg).1),own_tys h.tr u hS (by decide),h.len,h.ape,fun k g hg e=> ?_,fun k x hx g hg=> ⟨fun e=> ?_,(h.aph k x hx g hg).2⟩,h.apd⟩
 ·rcases hat g hg with h1 | h1
  ·exact h.apl k g h1 e
  ·have:=((h.ee k).lt g e).2;omega
 ·rcases hat g e with h1 | h1
  ·exact (h.aph k x hx g hg).1 h1
  ·have:=((h.lh k x hx).lt g hg).2;omega
theorem getD_snoc(l:List α)(x:α)(k:Nat):(l++ [x]).getD k x=l.getD k x:=by
 rw[List.getD_eq_getElem?_getD,List.getD_eq_getElem?_getD];rcases Nat.lt_or_ge k l.length with h | h
 ·rw[List.getElem?_append_left h]
 ·rw[List.getElem?_append_right h,List.getElem?_eq_none h];cases hk:k - l.length with
  | zero=> simp
  | succ m=> simp
theorem GrAt.moreE{ev':Value}(h:GrAt B w gb V D)(u:Upd S w w')(hS:TysIn S w [106,65])(hb:w'.heap[gb]? =some (.cells #[.pointer (some ⟨V.bb,0,none⟩),ev',V.dv,V.tv] 106 (0,0)))
 (hr:w'.ownsRow B 65 1 ev' (D.es.length+1) (V.vs++ [nilS])):GrAt B w' gb {V with ev:=ev',vs:=V.vs++ [nilS]} {D with es:=D.es++ [[]]}:=by
 refine ⟨h.low,hb,h.bld.tys u hS (by decide) (by decide),by simpa using hr,fun k=> ?_,own_tys h.dr u hS (by decide),fun k=> own_tys (h.de k) u hS (by decide),fun k x hx=> own_tys (h.lh k x hx) u hS (by decide),own_tys h.tr u hS (by decide),h.len,fun j k g hjk hg=> ?_,fun k g hg=> ?_,fun k x hx g hg=> ⟨(h.aph k x hx g hg).1,fun j=> ?_⟩,h.apd⟩
 ·show w'.ownsRow B 30 32 ((V.vs++ [nilS]).getD k nilS) ((D.es++ [[]]).getD k []).length (hcells ((D.es++ [[]]).getD k []));rw[getD_snoc,getD_snoc];exact own_tys (h.ee k) u hS (by decide)
 ·have hg':((V.vs++ [nilS]).getD j nilS).ownBlock=some g:=hg;show ((V.vs++ [nilS]).getD k nilS).ownBlock≠some g;rw[getD_snoc] at hg'⊢;exact h.ape j k g hjk hg'
 ·show ((V.vs++ [nilS]).getD k nilS).ownBlock≠some g;rw[getD_snoc];exact h.apl k g hg
 ·show ((V.vs++ [nilS]).getD j nilS).ownBlock≠some g;rw[getD_snoc];exact (h.aph k x hx g hg).2 j
theorem GrAt.moreT{dv' tv':Value}(h:GrAt B w gb V D)(u:Upd S w w')(hS:TysIn S w [106,112,4])(hb:w'.heap[gb]? =some (.cells #[.pointer (some ⟨V.bb,0,none⟩),V.ev,dv',tv'] 106 (0,0)))
 (hr:w'.ownsRow B 112 1 dv' (D.ls.length+1) (V.dvs++ [nilS])) (ht:w'.ownsRow B 4 1 tv' (D.ts.length+1) (D.ts.map Value.bool++ [.bool false])):
 GrAt B w' gb {V with dv:=dv',tv:=tv',dvs:=V.dvs++ [nilS]} {D with ls:=D.ls++ [[]],ts:=D.ts++ [false]}:=by
 refine ⟨h.low,hb,h.bld.tys u hS (by decide) (by decide),own_tys h.er u hS (by decide),fun k=> own_tys (h.ee k) u hS (by decide),by simpa using hr,fun k=> ?_,fun k x hx=> ?_,by simpa using ht,by simp[h.len],h.ape,h.apl,fun k x hx g hg=> ?_,fun j k g hjk hg=> ?_⟩
 ·show w'.ownsRow B 117 4 ((V.dvs++ [nilS]).getD k nilS) ((D.ls++ [[]]).getD k []).length (laidCs ((D.ls++ [[]]).getD k []));rw[getD_snoc,getD_snoc];exact own_tys (h.de k) u hS (by decide)
 ·have hx':x∈(D.ls++ [[]]).getD k []:=hx;rw[getD_snoc] at hx';exact own_tys (h.lh k x hx') u hS (by decide)
 ·have hx':x∈(D.ls++ [[]]).getD k []:=hx;rw[getD_snoc] at hx';exact h.aph k x hx' g hg
 ·have hg':((V.dvs++ [nilS]).getD j nilS).ownBlock=some g:=hg;show ((V.dvs++ [nilS]).getD k nilS).ownBlock≠some g;rw[getD_snoc] at hg'⊢;exact h.apd j k g hjk hg'
theorem GrAt.touch{ts':List Bool}(h:GrAt B w gb V D)(u:Upd S w w')(hS:TysIn S w [4])(hl:ts'.length=D.ts.length)(ht:w'.ownsRow B 4 1 V.tv D.ts.length (ts'.map Value.bool)):GrAt B w' gb V {D with ts:=ts'}:=
 ⟨h.low,blk_tys h.blk u hS (by decide),h.bld.tys u hS (by decide) (by decide),own_tys h.er u hS (by decide),fun k=> own_tys (h.ee k) u hS (by decide),own_tys h.dr u hS (by decide),fun k=> own_tys (h.de k) u hS (by decide),fun k x hx=> own_tys (h.lh k x hx) u hS (by decide),by rw[hl];exact ht,by rw[hl];exact h.len,h.ape,h.apl,h.aph,h.apd⟩
theorem getD_put(l:List α)(k j:Nat)(x d:α)(hk:k < l.length):(l.set k x).getD j d=if j=k then x else l.getD j d:=by
 rw[List.getD_eq_getElem?_getD,List.getD_eq_getElem?_getD,List.getElem?_set];by_cases h:k=j
 ·subst h;simp[hk]
 ·rw[if_neg h,if_neg (fun e=> h e.symm)]
theorem GrAt.pushE{k:Nat}{v':Value}{x:HB}(h:GrAt B w gb V D)(hk:k < D.es.length)(u:Upd S w w')(hS:∀g,g < w.heap.size→S g→(V.vs.getD k nilS).ownBlock=some g∨∃c f,w.heap[g]? =some (.cells c 65 f))
 (her:w'.ownsRow B 65 1 V.ev D.es.length (V.vs.set k v')) (hee:w'.ownsRow B 30 32 v' ((D.es.getD k []).length+1) (hcells (D.es.getD k []++ [x])))
 (hat:∀g,v'.ownBlock=some g→(V.vs.getD k nilS).ownBlock=some g∨w.heap.size≤g):GrAt B w' gb {V with vs:=V.vs.set k v'} {D with es:=D.es.set k (D.es.getD k []++ [x])}:=by
 have hkv:k < V.vs.length:=by have:=h.er.1;omega
 have hT:TysIn S w [30,65]:=fun g hgs hg=> by
  rcases hS g hgs hg with e | ⟨c,f,e⟩
  ·obtain ⟨c,hc⟩:=rowT (h.ee k) e;exact ⟨c,_,_,by simp,hc⟩
  ·exact ⟨c,_,f,by simp,e⟩
 have hrow:∀{v:Value} {n:Nat} {xs:List Value},w.ownsRow B 30 32 v n xs→(∀g,v.ownBlock=some g→(V.vs.getD k nilS).ownBlock≠some g)→w'.ownsRow B 30 32 v n xs:=fun hr hn=>
  ownsRow_upd hr u (fun g hg hs=> by
   rcases hS g (hr.lt g hg).2 hs with e | ⟨c,f,e⟩
   ·exact hn g hg e
   ·exact rowNe hr e (by decide) g hg rfl)
 have hapv:∀j g,j≠k→(V.vs.getD j nilS).ownBlock=some g→v'.ownBlock≠some g:=fun j g hj hg e=> by
  rcases hat g e with h1 | h1
  ·exact h.ape j k g hj hg h1
  ·have:=((h.ee j).lt g hg).2;omega
 refine ⟨h.low,blk_tys h.blk u hT (by decide),⟨blk_tys h.bld.blk u hT (by decide),hrow h.bld.row (fun g hg=> h.apl k g hg),h.bld.lo⟩,by simpa using her,fun j=> ?_,own_tys h.dr u hT (by decide),fun j=> own_tys (h.de j) u hT (by decide),fun j y hy=> hrow (h.lh j y hy) (fun g hg=> (h.aph j y hy g hg).2 k),own_tys h.tr u hT (by decide),h.len,fun i j g hij hg=> ?_,fun j g hg=> ?_,fun i y hy g hg=> ⟨(h.aph i y hy g hg).1,fun j=> ?_⟩,h.apd⟩
 ·show w'.ownsRow B 30 32 ((V.vs.set k v').getD j nilS) ((D.es.set k (D.es.getD k []++ [x])).getD j []).length (hcells ((D.es.set k (D.es.getD k []++ [x])).getD j []));rw[getD_put _ _ _ _ _ hkv,getD_put _ _ _ _ _ hk];by_cases hjk:j=k
  ·rw[if_pos hjk,if_pos hjk];simpa using hee
  ·rw[if_neg hjk,if_neg hjk];exact hrow (h.ee j) (fun g hg=> h.ape j k g hjk hg)
 ·have hg':((V.vs.set k v').getD i nilS).ownBlock=some g:=hg;show ((V.vs.set k v').getD j nilS).ownBlock≠some g;rw[getD_put _ _ _ _ _ hkv] at hg'⊢;by_cases hik:i=k
  ·rw[if_pos hik] at hg';rw[if_neg (fun e=> hij (hik.trans e.symm))];intro e;exact hapv j g (fun e2=> hij (hik.trans e2.symm)) e hg'
  ·rw[if_neg hik] at hg';by_cases hjk:j=k
   ·rw[if_pos hjk];exact hapv i g hik hg'
   ·rw[if_neg hjk];exact h.ape i j g hij hg'
 ·show ((V.vs.set k v').getD j nilS).ownBlock≠some g;rw[getD_put _ _ _ _ _ hkv];by_cases hjk:j=k
  ·rw[if_pos hjk];intro e;rcases hat g e with h1 | h1
   ·exact h.apl k g hg h1
   ·have:=(h.bld.row.lt g hg).2;omega
  ·rw[if_neg hjk];exact h.apl j g hg
 ·show ((V.vs.set k v').getD j nilS).ownBlock≠some g;rw[getD_put _ _ _ _ _ hkv];by_cases hjk:j=k
  ·rw[if_pos hjk];intro e;rcases hat g e with h1 | h1
   ·exact (h.aph i y hy g hg).2 k h1
   ·have:=((h.lh i y hy).lt g hg).2;omega
  ·rw[if_neg hjk];exact (h.aph i y hy g hg).2 j
theorem GrAt.full{k:Nat}{dv':Value}{i wd:Nat}(h:GrAt B w gb V D)(hk:k < D.es.length)(hkl:k < D.ls.length)(u:Upd S w w')(hS:∀g,g < w.heap.size→S g→(V.dvs.getD k nilS).ownBlock=some g∨∃c T f,T∈ [65,112]∧w.heap[g]? =some (.cells c T f))
 (her:w'.ownsRow B 65 1 V.ev D.es.length (V.vs.set k nilS)) (hdr:w'.ownsRow B 112 1 V.dv D.ls.length (V.dvs.set k dv'))
 (hde:w'.ownsRow B 117 4 dv' ((D.ls.getD k []).length+1) (laidCs (D.ls.getD k []++ [⟨k,i,wd,D.es.getD k [],V.vs.getD k nilS⟩])))
 (hat:∀g,dv'.ownBlock=some g→(V.dvs.getD k nilS).ownBlock=some g∨w.heap.size≤g):
 GrAt B w' gb {V with vs:=V.vs.set k nilS,dvs:=V.dvs.set k dv'} {D with es:=D.es.set k [],ls:=D.ls.set k (D.ls.getD k []++ [⟨k,i,wd,D.es.getD k [],V.vs.getD k nilS⟩])}:=by
 have hkv:k < V.vs.length:=by have:=h.er.1;omega
 have hkd:k < V.dvs.length:=by have:=h.dr.1;omega
 have hT:TysIn S w [117,65,112]:=fun g hgs hg=> by
  rcases hS g hgs hg with e | ⟨c,T,f,hTT,e⟩
  ·obtain ⟨c,hc⟩:=rowT (h.de k) e;exact ⟨c,_,_,by simp,hc⟩
  ·exact ⟨c,T,f,List.mem_cons_of_mem _ hTT,e⟩
 have hrow:∀{v:Value} {n:Nat} {xs:List Value},w.ownsRow B 117 4 v n xs→(∀g,v.ownBlock=some g→(V.dvs.getD k nilS).ownBlock≠some g)→w'.ownsRow B 117 4 v n xs:=fun hr hn=>
  ownsRow_upd hr u (fun g hg hs=> by
   rcases hS g (hr.lt g hg).2 hs with e | ⟨c,T,f,hTT,e⟩
   ·exact hn g hg e
   ·exact rowNe hr e (fun e2=> absurd (e2▸hTT) (by decide)) g hg rfl)
 have hapv:∀j g,j≠k→(V.dvs.getD j nilS).ownBlock=some g→dv'.ownBlock≠some g:=fun j g hj hg e=> by
  rcases hat g e with h1 | h1
  ·exact h.apd j k g hj hg h1
  ·have:=((h.de j).lt g hg).2;omega
 have hvk:∀j g,((V.vs.set k nilS).getD j nilS).ownBlock=some g→j≠k∧(V.vs.getD j nilS).ownBlock=some g:=fun j g hg=> by
  rw[getD_put _ _ _ _ _ hkv] at hg;by_cases hjk:j=k
  ·rw[if_pos hjk] at hg;cases hg
  ·rw[if_neg hjk] at hg;exact ⟨hjk,hg⟩
 refine ⟨h.low,blk_tys h.blk u hT (by decide),h.bld.tys u hT (by decide) (by decide),by simpa using her,fun j=> ?_,by simpa using hdr,fun j=> ?_,fun j y hy=> ?_,own_tys h.tr u hT (by decide),by simpa using h.len,fun a j g hij hg=> ?_,fun j g hg e=> ?_,fun a y hy g hg=> ?_,fun a j g hij hg=> ?_⟩
 ·show w'.ownsRow B 30 32 ((V.vs.set k nilS).getD j nilS) ((D.es.set k []).getD j []).length (hcells ((D.es.set k []).getD j []));rw[getD_put _ _ _ _ _ hkv,getD_put _ _ _ _ _ hk];by_cases hjk:j=k
  ·rw[if_pos hjk,if_pos hjk];exact World.ownsRow_nil _ _ _ _
  ·rw[if_neg hjk,if_neg hjk];exact own_tys (h.ee j) u hT (by decide)
 ·show w'.ownsRow B 117 4 ((V.dvs.set k dv').getD j nilS) ((D.ls.set k (D.ls.getD k []++ [⟨k,i,wd,D.es.getD k [],V.vs.getD k nilS⟩])).getD j []).length (laidCs ((D.ls.set k (D.ls.getD k []++ [⟨k,i,wd,D.es.getD k [],V.vs.getD k nilS⟩])).getD j []));rw[getD_put _ _ _ _ _ hkd,getD_put _ _ _ _ _ hkl];by_cases hjk:j=k
  ·rw[if_pos hjk,if_pos hjk];simpa using hde
  ·rw[if_neg hjk,if_neg hjk];exact hrow (h.de j) (fun g hg=> h.apd j k g hjk hg)
 ·have hy':y∈(D.ls.set k (D.ls.getD k []++ [⟨k,i,wd,D.es.getD k [],V.vs.getD k nilS⟩])).getD j []:=hy;rw[getD_put _ _ _ _ _ hkl] at hy';by_cases hjk:j=k
  ·rw[if_pos hjk] at hy';rcases List.mem_append.1 hy' with h1 | h1
   ·exact own_tys (h.lh k y h1) u hT (by decide)
   ·rw[List.mem_singleton.1 h1];exact own_tys (h.ee k) u hT (by decide)
  ·rw[if_neg hjk] at hy';exact own_tys (h.lh j y hy') u hT (by decide)
 ·intro e;obtain ⟨h1,h2⟩:=hvk a g hg;obtain ⟨h3,h4⟩:=hvk j g e;exact h.ape a j g hij h2 h4
 ·obtain ⟨_,h2⟩:=hvk j g e;exact h.apl j g hg h2
 ·have hy':y∈(D.ls.set k (D.ls.getD k []++ [⟨k,i,wd,D.es.getD k [],V.vs.getD k nilS⟩])).getD a []:=hy;rw[getD_put _ _ _ _ _ hkl] at hy';have hold:∀b,y∈D.ls.getD b []→V.lv.ownBlock≠some g∧∀j,((V.vs.set k nilS).getD j nilS).ownBlock≠some g:=fun b hb=> ⟨(h.aph b y hb g hg).1,fun j e=> by obtain ⟨_,h2⟩:=hvk j g e;exact (h.aph b y hb g hg).2 j h2⟩
  by_cases hjk:a=k
  ·rw[if_pos hjk] at hy';rcases List.mem_append.1 hy' with h1 | h1
   ·exact hold k h1
   ·rw[List.mem_singleton.1 h1] at hg;refine ⟨fun e=> h.apl k g e hg,fun j e=> ?_⟩;obtain ⟨h2,h3⟩:=hvk j g e;exact h.ape j k g h2 h3 hg
  ·rw[if_neg hjk] at hy';exact hold a hy'
 ·have hg':((V.dvs.set k dv').getD a nilS).ownBlock=some g:=hg;show ((V.dvs.set k dv').getD j nilS).ownBlock≠some g;rw[getD_put _ _ _ _ _ hkd] at hg'⊢;by_cases hik:a=k
  ·rw[if_pos hik] at hg';rw[if_neg (fun e=> hij (hik.trans e.symm))];intro e;exact hapv j g (fun e2=> hij (hik.trans e2.symm)) e hg'
  ·rw[if_neg hik] at hg';by_cases hjk:j=k
   ·rw[if_pos hjk];exact hapv a g hik hg'
   ·rw[if_neg hjk];exact h.apd a j g hij hg'
end
section
variable {P:Program} {ops:Array Oper} {Q:Exit→Act→World→Prop} {md:Region.Mode} {S:World→Prop} {Bs:List Nat}
def openB(Bs:List Nat)(listed:Array Bool):Bool:=Bs.all fun b=> !listed.getD b false
def waitsB(md:Region.Mode)(ops:Array Oper)(Bs:List Nat)(i:Nat):Bool:=Bs.all fun b=> b !=i && match ops[b]? with | some ob=> ob.after.toList.any (fun e=> Region.binds md e && e.on==i) | none=> false
def wpAnyB(P:Program)(md:Region.Mode)(ops:Array Oper)(Q:Exit→Act→World→Prop)(S:World→Prop)(Bs:List Nat):Nat→Array Bool→Act→World→Prop
 | 0,listed,a,w=> Region.ready md ops listed= []∧Q .normal a w
 | fuel+1,listed,a,w=>
  (Region.ready md ops listed= []→Q .normal a w)∧
  ∀i∈Region.ready md ops listed,wpOp P ops Q i (fun a' w'=> (openB Bs (listed.setIfInBounds i true)=true→S w')∧wpAnyB P md ops Q S Bs fuel (listed.setIfInBounds i true) a' w') a w
theorem wpAny_of_bar:∀(fuel:Nat) (listed:Array Bool) (a:Act) (w:World),wpAnyB P md ops Q S Bs fuel listed a w→wpAny P md ops Q fuel listed a w
 | 0,_,_,_,h=> h
 | fuel+1,_,_,_,h=> ⟨h.1,fun i hi=> wpOp_mono (fun a' w' h'=> wpAny_of_bar fuel _ a' w' h'.2) (h.2 i hi)⟩
theorem open_set{listed:Array Bool}{j:Nat}(h:openB Bs listed=true)(hj:j∉Bs):openB Bs (listed.setIfInBounds j true)=true:=by unfold openB at*;rw[List.all_eq_true] at*;intro b hb;have h1:=h b hb;rw[getD_set_ne false (show j≠b from fun e=> hj (by rw[e];exact hb))];exact h1
theorem wpAnyB_first{i:Nat}{oi:Oper}{v:Value}(hi:ops[i]? =some oi)(hsel:∀(j:Nat) (o:Oper) cs b,ops[j]? =some o→o.op≠ .select cs b)
 (hQ:∀c a w,Q (.panic c) (a.put oi.dst v) w→Q (.panic c) a w) (hw:waitsB md ops Bs i=true):
 ∀(fuel:Nat) (listed:Array Bool) (a:Act) (w:World),
  (∀j oj,ops[j]? =some oj→j≠i→listed.getD j true=false→(∀e∈oj.after,Region.binds md e=true→e.on≠i)→oi.apart ops oj=true)→
  i∈Region.ready md ops listed→YieldsIf P ops S oi v a→S w→openB Bs listed=true→
  wpAnyB P md ops Q S Bs fuel (listed.setIfInBounds i true) (a.put oi.dst v) w→wpAnyB P md ops Q S Bs (fuel+1) listed a w:=by
 have hiB:i∉Bs:=fun h=> by have:=List.all_eq_true.1 hw i h;simp at this
 intro fuel;induction fuel with
 | zero=>
  intro listed a w _ hr hy hS ho H;refine ⟨fun h=> (by rw[h] at hr;cases hr),fun j hj=> ?_⟩;by_cases hji:j=i
  ·subst hji;exact hy.wpOp hi hS ⟨fun _=> hS,H⟩
  ·have:=ready_mono hj hji;rw[H.1] at this;cases this
 | succ fuel ih=>
  intro listed a w hfree hr hy hS ho H;refine ⟨fun h=> (by rw[h] at hr;cases hr),fun j hj=> ?_⟩;by_cases hji:j=i
  ·subst hji;exact hy.wpOp hi hS ⟨fun _=> hS,H⟩
  ·have h1:=H.2 j (ready_mono hj hji);obtain ⟨hjun,oj,hoj,hall⟩:=mem_ready.1 hj;have hnot:∀e∈oj.after,Region.binds md e=true→e.on≠i:=fun e he hb heq=> by
    have h1:=hall e he hb;have h0:=(mem_ready.1 hr).1;rw[heq] at h1;rcases Nat.lt_or_ge i listed.size with h' | h'
    ·simp[h'] at h0 h1;rw[h0] at h1;cases h1
    ·simp[Array.getElem?_eq_none h'] at h1
   have hjB:j∉Bs:=fun h=> by have h2:=List.all_eq_true.1 hw j h;simp only[hoj,Bool.and_eq_true,List.any_eq_true,beq_iff_eq] at h2;obtain ⟨_,e,he,hb,heq⟩:=h2;exact hnot e (by simpa using he) hb heq
   have hop2:openB Bs ((listed.setIfInBounds i true).setIfInBounds j true)=true:=open_set (open_set ho hiB) hjB;have h2:=wpOp_putIf hoj (hfree j oj hoj hji hjun hnot) (fun cs b=> hsel i oi cs b hi) (fun cs b=> hsel j oj cs b hoj) hQ hy h1;have hfree':∀k ok,ops[k]? =some ok→k≠i→(listed.setIfInBounds j true).getD k true=false→
    (∀e∈ok.after,Region.binds md e=true→e.on≠i)→oi.apart ops ok=true:=fun k ok hk hki hun hno=> by
    refine hfree k ok hk hki ?_ hno;by_cases hjk:j=k
    ·subst hjk;exact hjun
    ·rw[getD_set_ne true hjk] at hun;exact hun
   refine wpOp_mono (fun a' w' h3=> ⟨fun _=> h3.2.1 hop2,ih (listed.setIfInBounds j true) a' w' hfree' (ready_mono hr (Ne.symm hji)) h3.1 (h3.2.1 hop2) (open_set ho hjB) ?_⟩) h2;rw[Array.setIfInBounds_comm _ _ hji];exact h3.2.2
theorem bar_take{i:Nat}{oi:Oper}{v:Value}{fuel:Nat}{listed:Array Bool}{a:Act}{w:World}(hi:ops[i]? =some oi)
 (hs:Region.noSelect ops=true) (hf:Region.free md ops listed i=true) (hr:(Region.ready md ops listed).contains i=true) (hw:waitsB md ops Bs i=true) (ho:openB Bs listed=true)
 (hQ:∀c a w,Q (.panic c) (a.put oi.dst v) w→Q (.panic c) a w) (hy:YieldsIf P ops S oi v a) (hS:S w)
 (h:wpAnyB P md ops Q S Bs fuel (listed.setIfInBounds i true) (a.put oi.dst v) w):wpAnyB P md ops Q S Bs (fuel+1) listed a w:=
 wpAnyB_first hi (Region.noSelect_spec hs) hQ hw fuel listed a w (Region.free_spec hi hf) (by simpa using hr) hy hS ho h
theorem wpAnyB_pure{i:Nat}{oi:Oper}{v:Value}(hi:ops[i]? =some oi)(hsel:∀(j:Nat) (o:Oper) cs b,ops[j]? =some o→o.op≠ .select cs b)
 (hQ:∀c a w,Q (.panic c) (a.put oi.dst v) w→Q (.panic c) a w) (hiB:i∉Bs):
 ∀(fuel:Nat) (listed:Array Bool) (a:Act) (w:World),
  (∀j oj,ops[j]? =some oj→j≠i→listed.getD j true=false→(∀e∈oj.after,Region.binds md e=true→e.on≠i)→oi.apart ops oj=true)→
  i∈Region.ready md ops listed→YieldsIf P ops (fun _=> True) oi v a→(openB Bs listed=true→S w)→
  wpAnyB P md ops Q S Bs fuel (listed.setIfInBounds i true) (a.put oi.dst v) w→wpAnyB P md ops Q S Bs (fuel+1) listed a w:=by
 have hop:∀{L:Array Bool},openB Bs (L.setIfInBounds i true)=true→openB Bs L=true:=fun {L} h=> by unfold openB at*;rw[List.all_eq_true] at*;intro b hb;have h1:=h b hb;rwa [getD_set_ne false (show i≠b from fun e=> hiB (by rw[e];exact hb))] at h1
 intro fuel;induction fuel with
 | zero=>
  intro listed a w _ hr hy hS H;refine ⟨fun h=> (by rw[h] at hr;cases hr),fun j hj=> ?_⟩;by_cases hji:j=i
  ·subst hji;exact hy.wpOp hi trivial ⟨fun ho=> hS (hop ho),H⟩
  ·have:=ready_mono hj hji;rw[H.1] at this;cases this
 | succ fuel ih=>
  intro listed a w hfree hr hy hS H;refine ⟨fun h=> (by rw[h] at hr;cases hr),fun j hj=> ?_⟩;by_cases hji:j=i
  ·subst hji;exact hy.wpOp hi trivial ⟨fun ho=> hS (hop ho),H⟩
  ·have h1:=H.2 j (ready_mono hj hji);obtain ⟨hjun,oj,hoj,hall⟩:=mem_ready.1 hj;have hnot:∀e∈oj.after,Region.binds md e=true→e.on≠i:=fun e he hb heq=> by
    have h1:=hall e he hb;have h0:=(mem_ready.1 hr).1;rw[heq] at h1;rcases Nat.lt_or_ge i listed.size with h' | h'
    ·simp[h'] at h0 h1;rw[h0] at h1;cases h1
    ·simp[Array.getElem?_eq_none h'] at h1
   have h2:=wpOp_putIf hoj (hfree j oj hoj hji hjun hnot) (fun cs b=> hsel i oi cs b hi) (fun cs b=> hsel j oj cs b hoj) hQ hy h1;have hfree':∀k ok,ops[k]? =some ok→k≠i→(listed.setIfInBounds j true).getD k true=false→
    (∀e∈ok.after,Region.binds md e=true→e.on≠i)→oi.apart ops ok=true:=fun k ok hk hki hun hno=> by
    refine hfree k ok hk hki ?_ hno;by_cases hjk:j=k
    ·subst hjk;exact hjun
    ·rw[getD_set_ne true hjk] at hun;exact hun
   have hS2:∀w',(openB Bs ((listed.setIfInBounds i true).setIfInBounds j true)=true→S w')→(openB Bs (listed.setIfInBounds j true)=true→S w'):=fun w' h ho=> h (by rw[Array.setIfInBounds_comm _ _ (Ne.symm hji)];exact open_set ho hiB)
   refine wpOp_mono (fun a' w' h3=> ⟨hS2 w' h3.2.1,ih (listed.setIfInBounds j true) a' w' hfree' (ready_mono hr (Ne.symm hji)) h3.1 (hS2 w' h3.2.1) ?_⟩) h2;rw[Array.setIfInBounds_comm _ _ hji];exact h3.2.2
theorem bar_pure(i:Nat)(v:Value){oi:Oper}{fuel:Nat}{listed:Array Bool}{a:Act}{w:World}(hi:ops[i]? =some oi)
 (hs:Region.noSelect ops=true) (hf:Region.free md ops listed i=true) (hr:(Region.ready md ops listed).contains i=true) (hb:Bs.contains i=false)
 (hQ:∀c a w,Q (.panic c) (a.put oi.dst v) w→Q (.panic c) a w) (hwt:Region.wanted oi (yielded ops a.tmps)=true) (hrun:∀w,(execOp a.eval oi).run P w= .ok (.value v) w) (hS:openB Bs listed=true→S w)
 (h:wpAnyB P md ops Q S Bs fuel (listed.setIfInBounds i true) (a.put oi.dst v) w):wpAnyB P md ops Q S Bs (fuel+1) listed a w:=
 wpAnyB_pure hi (Region.noSelect_spec hs) hQ (by simpa using hb) fuel listed a w (Region.free_spec hi hf) (by simpa using hr) (.inl ⟨hwt,fun w _=> hrun w⟩) hS h
theorem wpAnyB_all{rs:List Nat}{fuel:Nat}{listed:Array Bool}{a:Act}{w:World}(hr:Region.ready md ops listed=rs)(hne:rs≠ [])
 (h:∀i∈rs,wpOp P ops Q i (fun a' w'=> (openB Bs (listed.setIfInBounds i true)=true→S w')∧wpAnyB P md ops Q S Bs fuel (listed.setIfInBounds i true) a' w') a w):wpAnyB P md ops Q S Bs (fuel+1) listed a w:=
 ⟨fun h0=> absurd (hr▸h0) hne,hr▸h⟩
theorem bar1{fuel:Nat}{listed:Array Bool}{a:Act}{w:World}(i:Nat)(hr:Region.ready md ops listed= [i])
 (h:wpOp P ops Q i (fun a' w'=> (openB Bs (listed.setIfInBounds i true)=true→S w')∧wpAnyB P md ops Q S Bs fuel (listed.setIfInBounds i true) a' w') a w):wpAnyB P md ops Q S Bs (fuel+1) listed a w:=
 wpAnyB_all hr (by simp) (fun j hj=> by rw[List.mem_singleton.1 hj];exact h)
theorem bar2{fuel:Nat}{listed:Array Bool}{a:Act}{w:World}(i j:Nat)(hr:Region.ready md ops listed= [i,j])
 (h1:wpOp P ops Q i (fun a' w'=> (openB Bs (listed.setIfInBounds i true)=true→S w')∧wpAnyB P md ops Q S Bs fuel (listed.setIfInBounds i true) a' w') a w)
 (h2:wpOp P ops Q j (fun a' w'=> (openB Bs (listed.setIfInBounds j true)=true→S w')∧wpAnyB P md ops Q S Bs fuel (listed.setIfInBounds j true) a' w') a w):wpAnyB P md ops Q S Bs (fuel+1) listed a w:=
 wpAnyB_all hr (by simp) (fun m hm=> by
  rcases List.mem_cons.1 hm with rfl | hm
  ·exact h1
  ·rw[List.mem_singleton.1 hm];exact h2)
theorem bar_done{listed:Array Bool}{a:Act}{w:World}(hr:Region.ready md ops listed= [])(h:Q .normal a w):
 ∀fuel,wpAnyB P md ops Q S Bs fuel listed a w
 | 0=> ⟨hr,h⟩
 | _+1=> ⟨fun _=> h,by rw[hr];simp⟩
theorem region_bar{id:Nat}{a:Act}{w:World}(S:World→Prop)(Bs:List Nat)(hm:P.follows .mixedOrders=true)
 (h:wpAnyB P .any ops Q S Bs ops.size (Array.replicate ops.size false) a w.drew):(Code.region id ops true).wp P Q a w:=
 wp_region_any hm (wpAny_of_bar _ _ _ _ h)
theorem bar_norm{a a':Act}{w:World}{n:Nat}{listed:Array Bool}(h:a=a')(hk:wpAnyB P md ops Q S Bs n listed a' w):wpAnyB P md ops Q S Bs n listed a w:=h▸hk
theorem bar_read(i:Nat)(v:Value){oi:Oper}{fuel:Nat}{listed:Array Bool}{a:Act}{w:World}(hi:ops[i]? =some oi)
 (hs:Region.noSelect ops=true) (hf:Region.free md ops listed i=true) (hr:(Region.ready md ops listed).contains i=true) (hw:waitsB md ops Bs i=true) (ho:openB Bs listed=true)
 (hQ:∀c a w,Q (.panic c) (a.put oi.dst v) w→Q (.panic c) a w) (hwt:Region.wanted oi (yielded ops a.tmps)=true) (hrun:∀w,S w→(execOp a.eval oi).run P w= .ok (.value v) w) (hS:S w)
 (h:wpAnyB P md ops Q S Bs fuel (listed.setIfInBounds i true) (a.put oi.dst v) w):wpAnyB P md ops Q S Bs (fuel+1) listed a w:=
 bar_take hi hs hf hr hw ho hQ (.inl ⟨hwt,hrun⟩) hS h
end
abbrev SB(B b:Nat)(bs:List UInt8)(w:World):Prop:=Lib.IsBuilder 183 5 B b (bs.map u8v) w
theorem cc_used(b:Nat)(w:World)(h0:w.cell? ⟨b,0,none⟩=some (.pointer (some ⟨b,0,none⟩))):
 Calls Tryz.prog 146 #[.pointer (some ⟨b,0,none⟩)] w fun e w'=> e= .returned (.tuple #[])∧w'=w:=by
 obtain ⟨j,hj,_⟩:=Option.map_eq_some_iff.1 (show (Tryz.prog.info? 183).map (·.size)=some 2 by kernel_rfl);go_enter Tryz.func146,Tryz.ntmps146;go_wp2;rw[Lib.run_neq_ptr_same w _ Tryz.underlying181 hj];go_wp2;go_end0;exact ⟨rfl,rfl⟩
theorem cc_fresh(b:Nat)(w:World)(h0:w.cell? ⟨b,0,none⟩=some (.pointer none))(hsh:w.shape? b=some (183,2))(hfz:w.frozen? ⟨b,0,none⟩=false):
 Calls Tryz.prog 146 #[.pointer (some ⟨b,0,none⟩)] w fun e w'=> e= .returned (.tuple #[])∧w'=w.setCell ⟨b,0,none⟩ (.pointer (some ⟨b,0,none⟩)):=by
 obtain ⟨j,hj,hjs⟩:=Option.map_eq_some_iff.1 (show (Tryz.prog.info? 183).map (·.size)=some 2 by kernel_rfl);go_enter Tryz.func146,Tryz.ntmps146;go_wp2;rw[Lib.run_to_unsafe w ⟨b,0,none⟩ Tryz.underlying181 Tryz.underlying234 hj (by rw[hjs];decide) hsh (Nat.zero_lt_succ 1)];simp only[Result.andThen];rw[Oper.upon_value];go_wp2;rw[run_callFunc_extern Tryz.func186 (by kernel_rfl) (by kernel_rfl) (by kernel_rfl) (e:=Extern.AbiNoEscape.same) (by kernel_rfl)];rw[Lib.run_noEscape];simp only[Result.andThen];rw[Oper.upon_value];go_wp2;rw[Lib.run_from_unsafe w ⟨b,0,none⟩ Tryz.underlying234 Tryz.underlying181 hj hsh (by kernel_rfl)];simp only[Result.andThen];rw[Oper.upon_value];go_wp2;go_end0;exact ⟨rfl,rfl⟩
theorem cc_any(B b:Nat)(bs:List Value)(w:World)(h:Lib.IsBuilder 183 5 B b bs w):
 Calls Tryz.prog 146 #[.pointer (some ⟨b,0,none⟩)] w fun e w'=> e= .returned (.tuple #[])∧(Lib.BuilderAt 183 5 B b (.pointer (some ⟨b,0,none⟩)) bs w'∧Below B w w'):=by
 rcases h with h | h
 ·refine (cc_fresh b w h.cell0 h.shape h.frozen0).mono ?_;rintro e w' ⟨rfl,rfl⟩;exact ⟨rfl,h.used _,(Below.refl B w).setCell (p:=⟨b,0,none⟩) h.1 _⟩
 ·refine (cc_used b w h.cell0).mono ?_;rintro e w' ⟨rfl,rfl⟩;exact ⟨rfl,h,Below.refl B _⟩
theorem wbyte_any(B b:Nat)(bs:List Value)(c:Int)(w:World)(h:Lib.IsBuilder 183 5 B b bs w)(hlen:bs.length+1≤140737488355328)(hBw:B≤w.heap.size):
 Calls Tryz.prog 169 #[.pointer (some ⟨b,0,none⟩),.int .u8 c] w fun e w'=> e= .returned .nilIface∧(Lib.BuilderAt 183 5 B b (.pointer (some ⟨b,0,none⟩)) (bs++ [.int .u8 c]) w'∧Below B w w'):=by
 obtain ⟨i0,hi,hz0,hz1,hz2⟩:=info_parts info_u8;have C:=cc_any B b bs w h;go_enter Tryz.func169,Tryz.ntmps169;go_wp2_with fail;refine C.mono ?_;rintro e w1 ⟨rfl,h1,hb1⟩;obtain ⟨hB,v,hbk,hown,hne⟩:=h1;have c0:w1.cell? ⟨b,0,none⟩=some (.pointer (some ⟨b,0,none⟩)):=by rw[Lib.cell_of_heap hbk];rfl
 have c1:w1.cell? ⟨b,1,none⟩=some v:=by rw[Lib.cell_of_heap hbk];rfl
 go_wp2_with (at_builtin;refine wpList_append_own _ rfl _ _ 165 rfl B 5 i0 (.int .u8 0) 1 1 Tryz.underlying165 hi hz0 hz1 hz2 rfl (by decide) _ _ _ rfl (hown.alloc _) ⟨w1.heap.size,0,none⟩ 1 1 [.int .u8 c] rfl rfl ?c1 ?c2 ?c3 ?c4 ?c5 ?_);case c1=>
  intro j u hj;match j,hj with
  | 0,hj=> simp at hj;subst hj;simp[Addr.add]
 case c2=> intro u hu;simp at hu;subst hu;rfl
 case c3=> unfold maxLen;omega
 case c4=> omega
 case c5=> have:=hb1.size;simp;omega
 intro v' w2 hown' hgrow _;have hlt:b < w1.heap.size:=lt_of_blk hbk;have hb2:w2.heap[b]? =some (.cells #[.pointer (some ⟨b,0,none⟩),v] 183 (0,0)):=by rw[hgrow.block b (by simp;omega) (fun e=> hne e.symm),Lib.alloc_old w1 _ b hlt];exact hbk
 have d0:w2.cell? ⟨b,0,none⟩=some (.pointer (some ⟨b,0,none⟩)):=by rw[Lib.cell_of_heap hb2];rfl
 have d1:w2.cell? ⟨b,1,none⟩=some v:=by rw[Lib.cell_of_heap hb2];rfl
 have f1:w2.frozen? ⟨b,1,none⟩=false:=Lib.frozen_of_heap hb2 1;obtain ⟨g,cap,rfl⟩:∃g cap,v'= .slice (some ⟨g,0,none⟩) (bs.length+1) cap:=by
  rcases hown'.2 with ⟨_,h0⟩ | ⟨g,cap,cur,hv,_⟩
  ·omega
  ·exact ⟨g,cap,hv⟩
 go_wp2;go_ret;refine ⟨rfl,?_,?_⟩
 ·exact Lib.BuilderAt.put (T:=183) (e:=5) hB hb2 (bs':=bs++ [.int .u8 c]) (by simpa using hown') (by decide)
 ·exact ((hb1.alloc (by have:=hb1.size;omega) _).grown hgrow (by have:=hb1.size;simp;omega) (fun k hk=> (hown.lt k hk).1)).setCell (p:=⟨b,1,none⟩) hB _
theorem cc_any2(B b:Nat)(bs:List Value)(w:World)(h:Lib.IsBuilder 183 5 B b bs w):
 Calls Tryz.prog 146 #[.pointer (some ⟨b,0,none⟩)] w fun e w'=> e= .returned (.tuple #[])∧(Lib.BuilderAt 183 5 B b (.pointer (some ⟨b,0,none⟩)) bs w'∧Below B w w'∧∀k,k≠b→w'.heap[k]? =w.heap[k]?):=by
 rcases h with h | h
 ·refine (cc_fresh b w h.cell0 h.shape h.frozen0).mono ?_;rintro e w' ⟨rfl,rfl⟩;exact ⟨rfl,h.used _,(Below.refl B w).setCell (p:=⟨b,0,none⟩) h.1 _,fun k hk=> Below.heap_setCell _ _ _ _ hk⟩
 ·refine (cc_used b w h.cell0).mono ?_;rintro e w' ⟨rfl,rfl⟩;exact ⟨rfl,h,Below.refl B _,fun _ _=> rfl⟩
theorem wrows_any(B b:Nat)(bs:List Value)(A:Option Addr)(n c:Nat)(news:List Value)(w:World)(h:Lib.IsBuilder 183 5 B b bs w)(hA:CellsAt w A news)(hAB:∀ad,A=some ad→ad.block≠b)(hn:news.length=n)(h1:∀u∈news,u.oneCell'=true)(hlen:bs.length+n≤140737488355328)(hBw:B≤w.heap.size):
 Calls Tryz.prog 103 #[.pointer (some ⟨b,0,none⟩),.slice A n c] w fun e w'=> e= .returned (.tuple #[.int .i64 n,.nilIface])∧(Lib.BuilderAt 183 5 B b (.pointer (some ⟨b,0,none⟩)) (bs++news) w'∧Below B w w'):=by
 obtain ⟨i0,hi,hz0,hz1,hz2⟩:=info_parts info_u8;have C:=cc_any2 B b bs w h;have HA:=ZA hA;have HAB:=ZA hAB;clear hA hAB;go_enter Tryz.func103,Tryz.ntmps103;go_wp2_with fail;refine C.mono ?_;rintro e w1 ⟨rfl,hb0,hb1,hsame⟩;have HA1:Hid (CellsAt w1 A news):=ZA (fun j u hu=> by
  obtain ⟨ad,e,hc⟩:=HA.o j u hu;have hlt:=lt_of_cell hc;have hbl:(ad.add j).block=ad.block:=by unfold Addr.add;split <;> rfl
  refine ⟨ad,e,?_⟩;rw[World.cell?_of_block (hsame _ (by rw[hbl];exact HAB.o ad e))];exact hc)
 clear hsame;obtain ⟨hB,v,hbk,hown,hne⟩:=hb0;have c0:w1.cell? ⟨b,0,none⟩=some (.pointer (some ⟨b,0,none⟩)):=by rw[Lib.cell_of_heap hbk];rfl
 have c1:w1.cell? ⟨b,1,none⟩=some v:=by rw[Lib.cell_of_heap hbk];rfl
 have HM:=ZA (show bs.length+n≤maxLen∧(bs.length+n)*1≤140737488355328 by unfold maxLen;omega);have HBW:=ZA (show B≤w1.heap.size by have:=hb1.size;omega);go_wp2_with (at_builtin;refine wpList_appX rfl _ _ 165 rfl B 5 i0 _ 1 1 Tryz.underlying165 hi hz0 hz1 hz2 rfl (by decide) _ _ _ rfl hown A n c news rfl (by rw[hn,Nat.mul_one]) HA1.o h1 HM.o.1 HM.o.2 HBW.o ?_);intro A' c' w2 hown' hgrow hat;have hlt:b < w1.heap.size:=lt_of_blk hbk;have hb2:w2.heap[b]? =some (.cells #[.pointer (some ⟨b,0,none⟩),v] 183 (0,0)):=by rw[hgrow.block b hlt (fun e=> hne e.symm)];exact hbk
 have d0:w2.cell? ⟨b,0,none⟩=some (.pointer (some ⟨b,0,none⟩)):=by rw[Lib.cell_of_heap hb2];rfl
 have d1:w2.cell? ⟨b,1,none⟩=some v:=by rw[Lib.cell_of_heap hb2];rfl
 have f1:w2.frozen? ⟨b,1,none⟩=false:=Lib.frozen_of_heap hb2 1;have HOWN:=ZA hown';clear hat;go_wp2;go_ret2;refine ⟨rfl,?_,?_⟩
 ·exact Lib.BuilderAt.put (T:=183) (e:=5) hB hb2 (bs':=bs++news) (by rw[List.length_append,hn];exact HOWN.o) (by decide)
 ·exact (hb1.grown hgrow (by have:=hb1.size;omega) (fun k hk=> (hown.lt k hk).1)).setCell (p:=⟨b,1,none⟩) hB _
end Go.Proofs.YtnkcfkjeeennmaaGreatDoor
