/- The steps of a region by what its slots hold (Typed): each slot holds a value that is known, or a value of which something is known that lasts. Names end in 3 beside Typed2's. A region that ends in operations that wait for all others; slots ahead told by values or lasting predicates (Typed3). Nothing of the program. tile.Encode by contract. A region that draws its order, in which some operations turn the world one behind the other (calls that write), while the others read or make memory; each slot by what it holds. Nothing of the program. -/
import Derived.Test.YtjnjpgdoncbahaaGreatDoorAgg
import Derived.Test.YtjnjpgdoncbahaaGreatDoorArgs
import Derived.Test.YtjnjpgdoncbahaaGreatDoorTyped2
import Derived.Test.YtjnjpgdoncbahaaGreatDoorGrW
import Derived.Test.YtjnjpgdoncbahaaGreatDoorCode
import Derived.Test.YtjnjpgdoncbahaaGreatDoorShaD
namespace Go.Proofs.YtjnjpgdoncbahaaGreatDoor
open Go.RowKit Go.Lib
set_option maxRecDepth 20000
set_option maxHeartbeats 8000000
variable {d:TypeDesc}{listed:Array Bool}{ty:TypeId}{x y:Operand}
def Lasts(p:Value→World→Prop):Prop:=∀v w w',p v w→Ext w w'→p v w'
def Slots3(F:List (Value⊕(Value→World→Prop)))(i:Nat)(v:Value)(w:World):Prop:=
 match F[i]? with
 | some (.inl x)=> v=x
 | some (.inr p)=> p v w
 | none=> True
theorem Slots3.mono{F:List (Value⊕(Value→World→Prop))}(hF:∀p,.inr p∈F→Lasts p)(i:Nat)(v:Value)(w w':World)(h:Slots3 F i v w)(u:Ext w w'):Slots3 F i v w':=by
 unfold Slots3 at*;split <;> rename_i hq <;> rw[hq] at h
 ·exact h
 ·exact hF _ (List.mem_of_getElem? hq) _ _ _ h u
 ·trivial
section
variable {P:Program} {l:List Oper} {w0:World} {F:List (Value⊕(Value→World→Prop))} {a0:Act} {i:Nat} {o:Oper}
def Hold3(l:List Oper)(a0 a:Act):Prop:=∀t,(∀o'∈l,o'.dst≠some t)→a.eval (.tmp t)=a0.eval (.tmp t)
def New3(l:List Oper)(F:List (Value⊕(Value→World→Prop)))(o:Oper)(a:Act)(w:World):Prop:=∀j o' d,l[j]? =some o'→j∈afterOn o→o'.dst=some d→Slots3 F j (a.eval (.tmp d)) w
def Kn3(l:List Oper)(F:List (Value⊕(Value→World→Prop)))(a0:Act)(o:Oper)(x:Operand)(v:Value):Prop:=∀a w,Hold3 l a0 a→New3 l F o a w→a.eval x=v
def writesNot3(l:List Oper)(t:Nat):Bool:=l.all fun o=> o.dst !=some t
theorem kn_old3(t:Nat){v:Value}(hn:writesNot3 l t=true)(h:a0.eval (.tmp t)=v):Kn3 l F a0 o (.tmp t) v:=fun a w hH _=>
 (hH t (fun o' ho'=> by simpa using List.all_eq_true.1 hn o' ho')).trans h
theorem kn_new3(j:Nat){d:Nat}{v:Value}{o':Oper}(h1:l[j]? =some o')(h2:o'.dst=some d)(h3:(afterOn o).contains j=true)(h4:F[j]? =some (.inl v)):Kn3 l F a0 o (.tmp d) v:=fun a w _ hN=> by have:=hN j o' d h1 (by simpa using h3) h2;unfold Slots3 at this;rw[h4] at this;exact this
theorem kn_const3{v:Value}:Kn3 l F a0 o (.const v) v:=fun _ _ _ _=> rfl
def Gd3(l:List Oper)(F:List (Value⊕(Value→World→Prop)))(a0:Act)(o:Oper):Prop:=
 ∀a w,Hold3 l a0 a→New3 l F o a w→Region.wanted o (yielded l.toArray a.tmps)=true
theorem gd_none3(h:o.guard=none):Gd3 l F a0 o:=fun a w _ _=> by unfold Region.wanted;rw[h]
theorem gd_some3(j:Nat){b:Bool}{d:Nat}{o':Oper}(h:o.guard=some (j,b))(h1:l[j]? =some o')(h2:o'.dst=some d)(h3:(afterOn o).contains j=true)(h4:F[j]? =some (.inl (.bool b))):Gd3 l F a0 o:=fun a w hH hN=> by
 have he:=kn_new3 (a0:=a0) j h1 h2 h3 h4 a w hH hN;have ht:a.tmps[d]? =some (.bool b):=by
  have he:a.tmps.getD d undef= .bool b:=he;rw[Array.getD_eq_getD_getElem?] at he;cases hq:a.tmps[d]? with
  | none=> rw[hq] at he;simp[undef] at he
  | some x=> rw[hq] at he;simpa using he
 unfold Region.wanted;rw[h];simp[yielded,h1,h2,ht]
theorem ty_val3{v:Value}(hg:Gd3 l F a0 o)(hF:F[i]? =some (.inl v))(h:∀a w,Ext w0 w→Hold3 l a0 a→New3 l F o a w→(execOp a.eval o).run P w= .ok (.value v) w):OpSpec P l w0 (Slots3 F) a0 i o:=by intro a w hX hH hN;rw[if_pos (hg a w hH hN),h a w hX hH hN];exact ⟨Upd.refl _ _,by unfold Slots3;rw[hF]⟩
theorem ty_move3{v:Value}(hg:Gd3 l F a0 o)(ho:o.op= .move x)(hF:F[i]? =some (.inl v))(hx:Kn3 l F a0 o x v):OpSpec P l w0 (Slots3 F) a0 i o:=
 ty_val3 hg hF (fun a w _ hH hN=> by simp[execOp,ho,hx a w hH hN])
theorem ty_pickT3{c:Operand}{v:Value}(hg:Gd3 l F a0 o)(ho:o.op= .pick c x y)(hF:F[i]? =some (.inl v))(hc:Kn3 l F a0 o c (.bool true))(hx:Kn3 l F a0 o x v):OpSpec P l w0 (Slots3 F) a0 i o:=
 ty_val3 hg hF (fun a w _ hH hN=> by simp[execOp,ho,hc a w hH hN,hx a w hH hN,asBool])
theorem ty_load13(p:Addr)(v:Value)(hg:Gd3 l F a0 o)(ho:o.op= .load ty x)(hF:F[i]? =some (.inl v))(hx:Kn3 l F a0 o x (.pointer (some p)))(hu:P.underlying ty=some d)(hd:aggD d=false)
 (hc:∀w,Ext w0 w→w.cell? p=some v):OpSpec P l w0 (Slots3 F) a0 i o:=
 ty_val3 hg hF (fun a w hX hH hN=> by
  have hc:=hc w hX;have hagg:(isAgg ty).run P w= .ok false w:=by unfold isAgg;rw[Sem.run_bind,run_underlying hu w];cases d <;> simp_all [aggD]
  simp[execOp,ho,hx a w hH hN,Instr.loadAt,Instr.sureAddr,loadVar,Sem.run_bind,hagg,hc])
theorem ty_loadAgg3(ty:TypeId)(g off:Nat)(vs:List Value)(hg:Gd3 l F a0 o)(ho:o.op= .load ty x)(hF:F[i]? =some (.inl (.agg vs.toArray)))(hx:Kn3 l F a0 o x (.pointer (some ⟨g,off,none⟩)))(hu:P.underlying ty=some d)(hd:aggD d=true)
 (hi:(P.info? ty).map (·.size)=some vs.length) (hc:∀w,Ext w0 w→∀j v,vs[j]? =some v→w.cell? ⟨g,off+j,none⟩=some v):OpSpec P l w0 (Slots3 F) a0 i o:=
 ty_val3 hg hF (fun a w hX hH hN=> by simp only[execOp,ho,hx a w hH hN,Instr.loadAt,Instr.sureAddr,Sem.run_bind,Sem.run_pure,Result.andThen_ok,run_loadVar_at g off ty vs hu hd hi (hc w hX)])
theorem ty_call3(f:FuncId)(args:List Operand)(ts:Array TypeId)(hg:Gd3 l F a0 o)(ho:o.op= .call {callee:= .value (.func f),args:=args.toArray,argTypes:=ts})(hb:hasBody P f=true)
 (C:∀a w,Ext w0 w→Hold3 l a0 a→New3 l F o a w→Calls P f (args.map a.eval).toArray w fun e w'=> ∃v,e= .returned v∧Ext w w'∧Slots3 F i v w'):OpSpec P l w0 (Slots3 F) a0 i o:=by
 intro a w hX hH hN;rw[if_pos (hg a w hH hN)];have hr:(execOp a.eval o).run P w= .ok (.enter f (args.map a.eval).toArray) w:=by simp[execOp,ho,resolve,Deferred.ofValue,Act.eval,invoke];exact run_callFunc_body w f _ hb
 rw[hr];exact C a w hX hH hN
theorem ty_call13(f:FuncId)(x:Operand)(ts:Array TypeId)(u:Value)(hg:Gd3 l F a0 o)(ho:o.op= .call {callee:= .value (.func f),args:=#[x],argTypes:=ts})(hb:hasBody P f=true)(hx:Kn3 l F a0 o x u)
 (C:∀w,Ext w0 w→Calls P f #[u] w fun e w'=> ∃v,e= .returned v∧Ext w w'∧Slots3 F i v w'):OpSpec P l w0 (Slots3 F) a0 i o:=
 ty_call3 f [x] ts hg ho hb (fun a w hX hH hN=> by simp only[List.map_cons,List.map_nil,hx a w hH hN];exact C w hX)
def SpecFrom3(P:Program)(l:List Oper)(w0:World)(Φ:Nat→Value→World→Prop)(a0:Act):Nat→List Oper→Prop
 | _,[]=> True
 | k,o::r=> OpSpec P l w0 Φ a0 k o∧SpecFrom3 P l w0 Φ a0 (k+1) r
theorem SpecFrom3.all{Φ:Nat→Value→World→Prop}:∀(r:List Oper) (k:Nat),SpecFrom3 P l w0 Φ a0 k r→∀i o,r[i]? =some o→OpSpec P l w0 Φ a0 (k+i) o
 | [],_,_,_,_,h=> by simp at h
 | o'::r,k,h,0,o,ho=> by
  have e:o'=o:=by simpa using ho
  subst e;exact h.1
 | o'::r,k,h,i+1,o,ho=> by rw[show k+(i+1)=k+1+i by omega];exact SpecFrom3.all r (k+1) h.2 i o (by simpa using ho)
theorem region_slots3{id:Nat}{Q:Exit→Act→World→Prop}{a:Act}{w:World}{l:List Oper}(F:List (Value⊕(Value→World→Prop)))(hmix:P.follows .mixedOrders=true)(hF:∀p,.inr p∈F→Lasts p)(ho:onceB l a.tmps.size=true)(hb:backB l=true)(spec:SpecFrom3 P l w (Slots3 F) a 0 l)
 (h:∀(v:Nat→Value) w',Ext w w'→(∀i o d,l[i]? =some o→o.dst=some d→Slots3 F i (v i) w')→Q .normal (putAll v l 0 a) w'):(Code.region id l.toArray true).wp P Q a w:=
 region_typed (Slots3 F) hmix (Slots3.mono hF) ho hb (fun i o hi=> by have:=SpecFrom3.all l 0 spec i o hi;rwa [Nat.zero_add] at this) h
theorem q_norm3{Q:Exit→Act→World→Prop}{x:Exit}{a a':Act}{w:World}(h:a=a')(k:Q x a' w):Q x a w:=by subst h;exact k
theorem slot_val3{v:Value}{w:World}{x:Value}(h:Slots3 F i v w)(hF:F[i]? =some (.inl x)):v=x:=by unfold Slots3 at h;rw[hF] at h;exact h
end
section
variable {P:Program} {l:List Oper} {w0:World} {F:List (Value⊕(Value→World→Prop))} {a0:Act} {i:Nat} {o:Oper}
theorem ty_run3(hg:Gd3 l F a0 o)(h:∀a w,Ext w0 w→Hold3 l a0 a→New3 l F o a w→∃v w',(execOp a.eval o).run P w= .ok (.value v) w'∧Ext w w'∧Slots3 F i v w'):OpSpec P l w0 (Slots3 F) a0 i o:=by intro a w hX hH hN;obtain ⟨v,w',hr,hu,hs⟩:=h a w hX hH hN;rw[if_pos (hg a w hH hN),hr];exact ⟨hu,hs⟩
theorem ty_fieldAddr3{t:TypeId}{f:Nat}(vx v:Value)(hg:Gd3 l F a0 o)(ho:o.op= .fieldAddr t x f)(hF:F[i]? =some (.inl v))(hx:Kn3 l F a0 o x vx)(hr:∀w:World,(Instr.fieldAt t vx f).run P w= .ok v w):OpSpec P l w0 (Slots3 F) a0 i o:=
 ty_val3 hg hF (fun a w _ hH hN=> by simp[execOp,ho,hx a w hH hN,hr w])
theorem known_call3{f:FuncId}{args:Array Value}{w:World}{v:Value}(hF:F[i]? =some (.inl v))(C:Calls P f args w fun e w'=> e= .returned v∧Ext w w'):Calls P f args w fun e w'=> ∃r,e= .returned r∧Ext w w'∧Slots3 F i r w':=
 C.mono (fun e w' ⟨h1,h2⟩=> ⟨v,h1,h2,by unfold Slots3;rw[hF]⟩)
theorem slot_prop3{v:Value}{w:World}{p:Value→World→Prop}(h:Slots3 F i v w)(hF:F[i]? =some (.inr p)):p v w:=by unfold Slots3 at h;rw[hF] at h;exact h
theorem new_prop3(j:Nat){d:Nat}{p:Value→World→Prop}{o':Oper}{a:Act}{w:World}(hN:New3 l F o a w)(h1:l[j]? =some o')(h2:o'.dst=some d)(h3:(afterOn o).contains j=true)(h4:F[j]? =some (.inr p)):p (a.eval (.tmp d)) w:=
 slot_prop3 (hN j o' d h1 (by simpa using h3) h2) h4
end
section
variable {P:Program}
theorem region_tail3{id:Nat}{Q:Exit→Act→World→Prop}{a:Act}{w:World}{l:List Oper}(n:Nat)(F:List (Value⊕(Value→World→Prop)))(hmix:P.follows .mixedOrders=true)(hF:∀p,.inr p∈F→Lasts p)(hn:decide (n≤l.length)=true)(ho:onceB (l.take n) a.tmps.size=true)
 (hb:backB (l.take n)=true) (hg:guardB (l.take n)=true) (ht:tailB l n=true) (spec:SpecFrom3 P (l.take n) w (Slots3 F) a 0 (l.take n))
 (h:∀(v:Nat→Value) w',Ext w w'→(∀i o d,(l.take n)[i]? =some o→o.dst=some d→Slots3 F i (v i) w')→wpAny P .any l.toArray Q (l.length - n) ((List.range l.length).map (fun i=> decide (i < n))).toArray (putAll v (l.take n) 0 a) w'):(Code.region id l.toArray true).wp P Q a w:=by
 have hn:n≤l.length:=of_decide_eq_true hn;refine wp_region_any hmix ?_;have hlen:(l.take n).length=n:=by rw[List.length_take];omega
 have main:=any_tail (P:=P) (Q:=Q) (w0:=w) (Φ:=Slots3 F) (a0:=a) (m:=l.length - n) n hn (Slots3.mono hF) ho hb hg ht (fun i o hi=> by have:=SpecFrom3.all (l.take n) 0 spec i o hi;rwa [Nat.zero_add] at this) ?_ n (Array.replicate l.toArray.size false) a w.drew ?_ ?_
 ·rw[show n+(l.length - n)=l.toArray.size by simp;omega] at main;exact main
 ·intro listed a' w' hT hall;have hL:listed=((List.range l.length).map (fun i=> decide (i < n))).toArray:=by
   apply Array.ext_getElem?;intro i;by_cases hi:i < l.length
   ·have hs:i < listed.size:=by rw[hT.sz];exact hi
    have hv:listed.getD i false=decide (i < n):=by
     by_cases hin:i < n
     ·rw[hall i hin];simp[hin]
     ·rw[hT.lo i (by omega) hi];simp[hin]
    rw[Array.getD_eq_getD_getElem?,Array.getElem?_eq_getElem hs] at hv;rw[Array.getElem?_eq_getElem hs];simp only[Option.getD_some] at hv;simp[hi,hv]
   ·rw[Array.getElem?_eq_none (by rw[hT.sz];omega),Array.getElem?_eq_none (by simp;omega)]
  have hl:∀i,i < (l.take n).length→((listed.toList.take n).toArray).getD i false=true:=fun i hi=> by rw[take_getD _ _ _ _ (by omega)];exact hall i (by omega)
  have key:∃v:Nat→Value,∀(i:Nat) (o:Oper) (d:Tmp),(l.take n)[i]? =some o→o.dst=some d→v i=a'.eval (.tmp d):=⟨fun i=> match ((l.take n)[i]?).bind (·.dst) with | some d=> a'.eval (.tmp d) | none=> undef,fun i o d hi hd=> by simp only[hi,Option.bind_some,hd]⟩;obtain ⟨v,hv⟩:=key;have hJ:=hT.j;have e:a'=putAll v (l.take n) 0 a:=by
   obtain ⟨d1,d2⟩:=putAll_df v (l.take n) 0 a;have htm:a'.tmps=(putAll v (l.take n) 0 a).tmps:=by
    apply Array.ext_getElem?;intro t;by_cases hx:∃(i:Nat) (o:Oper),(l.take n)[i]? =some o∧o.dst=some t
    ·obtain ⟨i,o,hi,hd⟩:=hx;obtain ⟨h1,h2⟩:=once_spec ho hi hd;rw[putAll_new v t (l.take n) 0 a i o hi hd h1 h2,Nat.zero_add,hv i o t hi hd];have h3:t < a'.tmps.size:=by rw[hJ.tz];exact h1
     rw[Array.getElem?_eq_getElem h3];show _=some (a'.tmps.getD t undef);rw[Array.getD_eq_getD_getElem?,Array.getElem?_eq_getElem h3];rfl
    ·have hx:∀(i:Nat) (o:Oper),(l.take n)[i]? =some o→o.dst≠some t:=fun i o hi hd=> hx ⟨i,o,hi,hd⟩;rw[putAll_old v t (l.take n) 0 a (fun o ho'=> by obtain ⟨i,hi,rfl⟩:=List.mem_iff_getElem.1 ho';exact hx i _ (List.getElem?_eq_getElem hi))]
     exact hJ.old t (fun i o hi _=> hx i o hi)
   cases a'
   cases hp:putAll v (l.take n) 0 a
   rw[hp] at htm d1;simp only[Act.mk.injEq];exact ⟨htm,hJ.df.trans d1.symm⟩
  rw[e,hL];refine h v w' hJ.I (fun i o d hi hd=> ?_);rw[hv i o d hi hd];exact hJ.new i o d hi (hl i (List.getElem?_eq_some_iff.1 hi).1) hd
 ·have rep:∀i,(Array.replicate l.toArray.size false).getD i false=false:=fun i=> by rw[Array.getD_eq_getD_getElem?,Array.getElem?_replicate];split <;> rfl
  have rep2:∀i,(((Array.replicate l.toArray.size false).toList.take n).toArray).getD i false=false:=fun i=> by
   rw[Array.getD_eq_getD_getElem?];simp only[List.getElem?_toArray,List.getElem?_take,Array.getElem?_toList,Array.getElem?_replicate];split
   ·split <;> rfl
   ·rfl
  exact ⟨⟨(Upd.refl none' w).drew,by simp,rfl,rfl,fun _ _=> rfl,fun i o d _ hl=> by rw[rep2] at hl;cases hl⟩,by simp,fun i _ _=> rep i,fun i o _ hl=> by rw[rep] at hl;cases hl⟩
 ·have:∀i∈List.range n,(!(Array.replicate l.toArray.size false).getD i true)=true:=fun i hi=> by have hin:=List.mem_range.1 hi;rw[Array.getD_eq_getD_getElem?,Array.getElem?_replicate,if_pos (by simp;omega)];rfl
  rw[List.countP_eq_length.2 this,List.length_range]
theorem ty_alloc3{l:List Oper}{w0:World}{F:List (Value⊕(Value→World→Prop))}{a0:Act}{i:Nat}{o:Oper}(hg:Gd3 l F a0 o)(ty:TypeId)(ho:o.op= .alloc ty)(z:Value)(hz:(P.info? ty).bind (·.zero)=some z)(p:Value→World→Prop)(hF:F[i]? =some (.inr p))
 (h:∀w,Ext w0 w→p (.pointer (some ⟨w.heap.size,0,none⟩)) (w.alloc (.cells z.cells ty))):OpSpec P l w0 (Slots3 F) a0 i o:=by
 intro a w hX hH hN;rw[if_pos (hg a w hH hN)];have hr:(execOp a.eval o).run P w= .ok (.value (.pointer (some ⟨w.heap.size,0,none⟩))) (w.alloc (.cells z.cells ty)):=by
  cases hq:P.info? ty with
  | none=> simp[hq] at hz
  | some t=>
   have hz2:t.zero=some z:=by simpa[hq] using hz
   simp[execOp,ho,Instr.alloc,zeroValue,typeInfo,hq,hz2,newVar,newRow]
 rw[hr];exact ⟨(Upd.refl none' w).alloc _,by unfold Slots3;rw[hF];exact h w hX⟩
end
theorem SB.ext{B b:Nat}{bs:List UInt8}{w w':World}(h:SB B b bs w)(u:Ext w w'):SB B b bs w':=by
 rcases h with ⟨h1,v,h2,h3,h4⟩ | ⟨h1,v,h2,h3,h4⟩
 ·exact .inl ⟨h1,v,Ext.blk u h2,ownsRow_upd h3 u (fun _ _=> id),h4⟩
 ·exact .inr ⟨h1,v,Ext.blk u h2,ownsRow_upd h3 u (fun _ _=> id),h4⟩
def EnRel(B b:Nat)(l:List HB)(w0:World)(iv:Value)(wr:World):Prop:=
 ∃j:Nat,j≤l.length∧iv= .int .i64 j∧SB B b ((l.take j).flatten) wr∧Below B w0 wr
theorem flat_len{l:List HB}(h:H32 l):l.flatten.length=l.length*32:=by
 induction l with
 | nil=> rfl
 | cons a l ih=>
  rw[List.flatten_cons,List.length_append,ih (fun x hx=> h x (List.mem_cons_of_mem _ hx)),h a (List.mem_cons_self ..),List.length_cons];omega
theorem encode_any(w:World)(g o:Nat)(l:List HB)(cap:Nat)(h32:H32 l)(hA:CellsAt w (some ⟨g,o,none⟩) (hcells l))(h1:1≤l.length)(h2:l.length≤256):
 Calls Tryz.prog 70 #[.slice (some ⟨g,o,none⟩) l.length cap] w fun e w'=> e= .returned (.tuple #[.string (str l.flatten),.nilIface])∧Ext w w':=by
 have a1:¬(l.length:Int) < 1:=by omega
 have a2:¬(256:Int) < l.length:=by omega
 have HB:=ZA (sb_fresh w);have HW:=ZA (((Upd.refl none' w).alloc (.cells #[.pointer none,.slice none 0 0] 226)));have HWB:=ZA (blk_alloc w (.cells #[.pointer none,.slice none 0 0] 226));have HA:=ZA hA;have H32':=ZA h32;have HL:=ZA h2;clear hA h32 h1 h2;go_enter Tryz.func70,Tryz.ntmps70;go_wp2_with fail;have HAW:=ZA (HA.o.ext HW.o);have HGL:=ZA (fun (hl:0 < l.length)=> (show g < w.heap.size by
  have h3:=H32'.o.getD 0 hl;have h:=hash_at HA.o H32'.o 0 hl;generalize l.getD 0 []=y at h h3;have hy:(y.map u8v)[0]? =some (u8v (y[0]'(by omega))):=by simp[h3]
  exact lt_of_cell (h 0 _ hy)))
 generalize World.alloc w (.cells #[.pointer none,.slice none 0 0] 226)=W at*;go_loopw [18] (fun iv wr=> EnRel w.heap.size w.heap.size l W iv wr) (fun iv _=> l.length - (RowKit.intOf iv).toNat);case atStart=> exact ⟨0,Nat.zero_le _,rfl,HB.o,Below.refl _ _⟩
 case round=>
  obtain ⟨j,hj,rfl,hsb,hbl⟩:=hrel;have HSB:=ZA hsb;have HBL:=ZA hbl;clear hsb hbl;by_cases hlt:j < l.length
  ·have hji:(j:Int) < l.length:=by omega
   have hg:=HGL.o (by omega);have HJ:=ZA hlt;have HC:=ZA (show∀i v,((l.getD j []).map u8v)[i]? =some v→wr.cell? ⟨g,o+j*32+i,none⟩=some v from fun i v hv=> by have h:=hash_at HAW.o H32'.o j hlt i v hv;rw[World.cell?_of_block (HBL.o.block _ hg)];exact h)
   have HX32:=ZA (H32'.o.getD j hlt);have HTK:=ZA (show (l.take (j+1)).flatten=(l.take j).flatten++l.getD j [] by rw[List.take_succ_eq_append_getElem hlt,List.flatten_append];simp[List.getD_eq_getElem?_getD,List.getElem?_eq_getElem hlt])
   have HOL:=ZA (show ((l.take j).flatten).length≤8192 by rw[flat_len (H32'.o.take j),List.length_take];have:=HL.o;omega)
   generalize l.getD j []=x at*;have HSZ:=ZA (hash_size32 x HX32.o);have HO1:=ZA (u8_ones x);have HZL:=ZA (show zero32.size=(x.map u8v).length by rw[List.length_map,HX32.o];rfl);clear hlt hg;go_wp2_with (first
    | (refine wpList_loadAgg rfl 33 _ rfl g (o+j*32) rfl (x.map u8v) Tryz.underlying33 rfl HSZ.o HC.o ?_)
    | (refine store_new rfl 33 _ _ rfl _ _ rfl (x.map u8v) rfl HSZ.o HZL.o HO1.o ?_))
   have C:=wrows_any w.heap.size w.heap.size (((l.take j).flatten).map u8v) (some ⟨wr.heap.size,0,none⟩) 32 32 (x.map u8v) (wr.alloc (.cells (x.map u8v).toArray 33)) (SB.ext HSB.o ((Upd.refl none' wr).alloc _)) (CellsAt.new wr _ _) (fun ad e=> by obtain rfl:=Option.some.inj e;have h1:=HBL.o.size;have h2:=lt_of_blk HWB.o;show wr.heap.size≠w.heap.size;omega) (by rw[List.length_map,HX32.o]) HO1.o (by rw[List.length_map];have:=HOL.o;omega) (by have h1:=HBL.o.size;have h2:=lt_of_blk HWB.o;simp;omega)
   refine C.mono ?_;rintro e w5 ⟨rfl,hb5,hbl5⟩;have HF:Hid (SB w.heap.size w.heap.size ((l.take (j+1)).flatten) w5):=ZA (by rw[HTK.o];exact .inr (by rw[List.map_append];exact hb5))
   have HBF:=ZA ((HBL.o.trans (Ext.below ((Upd.refl none' wr).alloc (.cells (x.map u8v).toArray 33)) (by have h1:=HBL.o.size;have h2:=lt_of_blk HWB.o;omega))).trans hbl5);clear hb5 hbl5 C;go_wp2_with fail;exact ⟨⟨j+1,by have:=HJ.o;omega,rfl,HF.o,HBF.o⟩,by have:=HJ.o;simp[RowKit.intOf];omega⟩
  ·have hjl:j=l.length:=by omega
   have hji:¬(j:Int) < l.length:=by omega
   have HSB2:Hid (SB w.heap.size w.heap.size l.flatten wr):=ZA (by have:=HSB.o;rwa [hjl,List.take_of_length_le (Nat.le_refl _)] at this)
   clear hj hlt hjl;have C:=Tryz.Builder_String_any w.heap.size w.heap.size l.flatten wr HSB2.o (by have h1:=HBL.o.size;have h2:=lt_of_blk HWB.o;omega);go_wp2_with fail;refine C.mono ?_;rintro e w9 ⟨rfl,hbl9⟩;have HF:=ZA (Ext.of_below ((Ext.below HW.o (Nat.le_refl _)).trans (HBL.o.trans hbl9)));clear hbl9 C;go_wp2_with fail;go_ret2;exact ⟨rfl,HF.o⟩
section
variable {P:Program}
def phase(K:List Nat)(listed:Array Bool):Nat:=K.countP (fun k=> listed.getD k false)
def waitsG(l:List Oper)(i j:Nat):Bool:=match l[i]? with | some o=> (sweep l l.length (afterOn o)).contains j | none=> false
def loG(l:List Oper)(K:List Nat)(i:Nat):Nat:=K.countP (fun k=> waitsG l i k)
def hiG(l:List Oper)(K:List Nat)(i:Nat):Nat:=K.countP (fun k=> k !=i && !waitsG l k i)
def loP(l:List Oper)(K:List Nat)(i:Nat):Nat:=K.countP (fun k=> k==i || waitsG l i k)
def nextG(K:List Nat)(i p:Nat):Nat:=if K.contains i then p+1 else p
def OutG(P:Program)(Y:Value→World→Prop):Result Next→Prop
 | .ok (.value u) w'=> Y u w'
 | .ok .skip w'=> Y undef w'
 | .ok (.enter f args) w'=> Calls P f args w' fun e w''=> ∃v,e= .returned v∧Y v w''
 | _=> False
def OpG(P:Program)(L:List Oper)(K:List Nat)(J:Nat→World→Prop)(R:Nat→World→World→Prop)(Φ:Nat→Value→World→Prop)(a0:Act)(i:Nat)(o:Oper):Prop:=
 ∀(p:Nat) (a:Act) (w:World),loG L K i≤p→p≤hiG L K i→J p w→(∀t,(∀o'∈L,o'.dst≠some t)→a.eval (.tmp t)=a0.eval (.tmp t))→(∀j o' d,L[j]? =some o'→j∈afterOn o→o'.dst=some d→Φ j (a.eval (.tmp d)) w)→
  if Region.wanted o (yielded L.toArray a.tmps)=true then OutG P (fun v w'=> R p w w'∧Φ i v w'∧J (nextG K i p) w') ((execOp a.eval o).run P w) else Φ i undef w∧J (nextG K i p) w
structure RG (l:List Oper) (n:Nat) (K:List Nat) (J:Nat→World→Prop) (Φ:Nat→Value→World→Prop) (a0:Act) (listed:Array Bool) (a:Act) (w:World):Prop where
 j:J (phase K listed) w
 sz:listed.size=l.length
 df:a.defers=a0.defers
 tz:a.tmps.size=a0.tmps.size
 old:∀t,(∀i o,(l.take n)[i]? =some o→listed.getD i false=true→o.dst≠some t)→a.tmps[t]? =a0.tmps[t]?
 new:∀i o d,(l.take n)[i]? =some o→listed.getD i false=true→o.dst=some d→Φ i (a.eval (.tmp d)) w
 lo:∀i,n≤i→i < l.length→listed.getD i false=false
 dc:∀i o,l[i]? =some o→listed.getD i false=true→∀j∈afterOn o,listed.getD j false=true
theorem phase_set:∀(K:List Nat) (listed:Array Bool) (i:Nat),K.Nodup→i < listed.size→listed.getD i false=false→phase K (listed.setIfInBounds i true)=nextG K i (phase K listed)
 | [],_,_,_,_,_=> rfl
 | x::K,listed,i,hnd,hs,h=> by
  obtain ⟨hx,hnd2⟩:=List.nodup_cons.1 hnd;have ih:=phase_set K listed i hnd2 hs h;unfold phase nextG at*;rw[List.countP_cons,List.countP_cons,ih];by_cases hxi:x=i
  ·subst hxi;have h2:(listed.setIfInBounds x true).getD x false=true:=by rw[getD_set _ _ _ hs,if_pos rfl]
   have h3:K.contains x=false:=by simpa using hx
   rw[h2,h,h3];simp
  ·have h2:(listed.setIfInBounds i true).getD x false=listed.getD x false:=by rw[getD_set _ _ _ hs,if_neg (fun e=> hxi e.symm)]
   rw[h2];have h3:(x::K).contains i=K.contains i:=by
    have:(i==x)=false:=by simpa using fun e:i=x=> hxi e.symm
    rw[List.contains_cons,this,Bool.false_or]
   rw[h3];split <;> omega
theorem waitsG_listed{l:List Oper}(hd:∀i o,l[i]? =some o→listed.getD i false=true→∀j∈afterOn o,listed.getD j false=true){i j:Nat}{o:Oper}(hi:l[i]? =some o)(ha:∀k∈afterOn o,listed.getD k false=true)(h:waitsG l i j=true):listed.getD j false=true:=by unfold waitsG at h;rw[hi] at h;exact sweep_listed (p:=fun j=> listed.getD j false=true) hd l.length (afterOn o) ha j (by simpa using h)
theorem RG.step{l:List Oper}{n:Nat}{K:List Nat}{J:Nat→World→Prop}{R:Nat→World→World→Prop}{Φ:Nat→Value→World→Prop}{a0:Act}{a:Act}{w w':World}{i:Nat}{o:Oper}{v:Value}(hm:∀j v w w' q,loP (l.take n) K j≤q→Φ j v w→R q w w'→Φ j v w')(ho:onceB (l.take n) a0.tmps.size=true)(hK:K.Nodup)(hin:i < n)
 (h:RG l n K J Φ a0 listed a w) (hi:l[i]? =some o) (hf:listed.getD i false=false) (ha:∀j∈afterOn o,listed.getD j false=true) (hu:R (phase K listed) w w') (hv:Φ i v w') (hj:J (nextG K i (phase K listed)) w'):RG l n K J Φ a0 (listed.setIfInBounds i true) (a.put o.dst v) w':=by
 have hlt:i < l.length:=(List.getElem?_eq_some_iff.1 hi).1;have hil:i < listed.size:=by rw[h.sz];exact hlt
 have hit:(l.take n)[i]? =some o:=by rw[List.getElem?_take,if_pos hin];exact hi
 have hdt:∀k ok,(l.take n)[k]? =some ok→listed.getD k false=true→∀j∈afterOn ok,listed.getD j false=true:=fun k ok hk=> h.dc k ok (by
  rw[List.getElem?_take] at hk;split at hk
  ·exact hk
  ·cases hk)
 have hlp:∀j oj,(l.take n)[j]? =some oj→listed.getD j false=true→loP (l.take n) K j≤phase K listed:=fun j oj hj hl=> by
  unfold loP phase;refine List.countP_mono_left (fun k _ hk=> ?_);rcases Bool.or_eq_true _ _▸hk with e | e
  ·rw[beq_iff_eq] at e;rw[e];exact hl
  ·exact waitsG_listed hdt hj (hdt j oj hj hl) e
 have hj':J (phase K (listed.setIfInBounds i true)) w':=by rw[phase_set K listed i hK hil hf];exact hj
 have hlo:∀k,n≤k→k < l.length→(listed.setIfInBounds i true).getD k false=false:=fun k hk hkl=> by rw[getD_set_ne false (by omega)];exact h.lo k hk hkl
 have hdc:∀k ok,l[k]? =some ok→(listed.setIfInBounds i true).getD k false=true→∀j∈afterOn ok,(listed.setIfInBounds i true).getD j false=true:=fun k ok hk hl j hj=> by
  rw[getD_set _ _ _ hil] at hl⊢;split
  ·rfl
  ·split at hl
   ·rename_i e;subst e;rw[hi] at hk;cases hk
    exact ha j hj
   ·exact h.dc k ok hk hl j hj
 cases hd:o.dst with
 | none=>
  refine ⟨hj',by simpa using h.sz,h.df,h.tz,fun t ht=> h.old t (fun j oj hj hl=> ht j oj hj ?_),fun j oj d hj hl hdj=> ?_,hlo,hdc⟩
  ·rw[getD_set _ _ _ hil];split; · rfl
   exact hl
  ·rw[getD_set _ _ _ hil] at hl;split at hl
   ·rename_i e;subst e;rw[hit] at hj;cases hj
    rw[hd] at hdj;cases hdj
   ·exact hm _ _ _ _ _ (hlp j oj hj hl) (h.new j oj d hj hl hdj) hu
 | some d=>
  obtain ⟨hdn,hne⟩:=once_spec ho hit hd;have hdn2:d < a.tmps.size:=by rw[h.tz];exact hdn
  refine ⟨hj',by simpa using h.sz,h.df,by simpa[Act.put] using h.tz,fun t ht=> ?_,fun j oj e hj hl hdj=> ?_,hlo,hdc⟩
  ·rw[put_get a d v t hdn2,if_neg (fun e=> ht i o hit (by rw[getD_set _ _ _ hil,if_pos rfl]) (by rw[hd,e]))];exact h.old t (fun j oj hj hl=> ht j oj hj (by rw[getD_set _ _ _ hil];split <;> first | rfl | exact hl))
  ·rw[getD_set _ _ _ hil] at hl;split at hl
   ·rename_i e1;subst e1;rw[hit] at hj;cases hj
    rw[hd] at hdj;cases hdj
    rw[eval_of_get (show (a.put (some d) v).tmps[d]? =some v by rw[put_get a d v d hdn2,if_pos rfl])];exact hv
   ·rename_i e1;rw[eval_congr (show (a.put (some d) v).tmps[e]? =a.tmps[e]? by rw[put_get a d v e hdn2,if_neg (fun e2=> hne j oj hj (fun e3=> e1 e3.symm) (by rw[hdj,e2]))])];exact hm _ _ _ _ _ (hlp j oj hj hl) (h.new j oj e hj hl hdj) hu
theorem any_gen{l:List Oper}{m:Nat}{K:List Nat}{J:Nat→World→Prop}{R:Nat→World→World→Prop}{Φ:Nat→Value→World→Prop}{a0:Act}{Q:Exit→Act→World→Prop}(n:Nat)(hn:n≤l.length)(hR:∀p w,R p w w)(hm:∀j v w w' q,loP (l.take n) K j≤q→Φ j v w→R q w w'→Φ j v w')(ho:onceB (l.take n) a0.tmps.size=true)(hK:K.Nodup)(hKn:∀k∈K,k < n)
 (hb:backB (l.take n)=true) (hg:guardB (l.take n)=true) (ht:tailB l n=true) (spec:∀i o,(l.take n)[i]? =some o→OpG P (l.take n) K J R Φ a0 i o)
 (hQ:∀listed a w,RG l n K J Φ a0 listed a w→(∀i,i < n→listed.getD i false=true)→wpAny P .any l.toArray Q m listed a w):
 ∀(c:Nat) (listed:Array Bool) (a:Act) (w:World),RG l n K J Φ a0 listed a w→(List.range n).countP (fun i=> !listed.getD i true)=c→wpAny P .any l.toArray Q (c+m) listed a w:=by
 intro c;induction c with
 | zero=>
  intro listed a w h hc;rw[Nat.zero_add];refine hQ listed a w h (fun i hi=> ?_);have h0:=List.countP_eq_zero.1 hc i (List.mem_range.2 hi);have hs:i < listed.size:=by rw[h.sz];omega
  simp[hs] at h0⊢;exact h0
 | succ c ih=>
  intro listed a w h hc;rw[show c+1+m=(c+m)+1 by omega];have hex:∃i,i < n∧listed.getD i true=false:=by
   have:0 < (List.range n).countP (fun i=> !listed.getD i true):=by omega
   obtain ⟨i,hi,h1⟩:=List.countP_pos_iff.1 this;exact ⟨i,List.mem_range.1 hi,by simpa using h1⟩
  have hlow:∀i,i∈Region.ready .any l.toArray listed→i < n:=by
   intro i hi;obtain ⟨h1,o,h2,h3⟩:=mem_ready.1 hi;have hil:l[i]? =some o:=by simpa using h2
   have hlt:i < l.length:=(List.getElem?_eq_some_iff.1 hil).1;apply Classical.byContradiction;intro hni;have hb1:=List.all_eq_true.1 ht i (List.mem_range.2 hlt);simp only[hil,Bool.or_eq_true,decide_eq_true_eq] at hb1;have hb2:=hb1.resolve_left hni;obtain ⟨j,hj,hjf⟩:=hex;have hb3:=List.all_eq_true.1 hb2 j (List.mem_range.2 hj);have:=sweep_listed (l:=l) (p:=fun j=> listed.getD j false=true) h.dc n (afterOn o) (fun k hk=> by obtain ⟨e,he,rfl⟩:=List.mem_map.1 hk;obtain ⟨he1,he2⟩:=List.mem_filter.1 he;exact h3 e (by simpa using he1) he2) j (by simpa using hb3)
   have hs:j < listed.size:=by rw[h.sz];omega
   simp[hs] at this hjf;rw[hjf] at this;cases this
  refine ⟨fun hr=> ?_,fun i hi=> ?_⟩
  ·exfalso;have key:∀k,k < n→listed.getD k false=true:=by
    intro k;induction k using Nat.strongRecOn with
    | _ k ihk=>
     intro hk;have hs:k < listed.size:=by rw[h.sz];omega
     rcases Bool.eq_false_or_eq_true (listed.getD k false) with h1 | h1
     ·exact h1
     ·exfalso;have hkl:k < l.length:=by omega
      have hok:l[k]? =some l[k]:=List.getElem?_eq_getElem hkl;have hok2:(l.take n)[k]? =some l[k]:=by rw[List.getElem?_take,if_pos hk];exact hok
      have hb1:=List.all_eq_true.1 hb k (List.mem_range.2 (List.getElem?_eq_some_iff.1 hok2).1);simp only[hok2] at hb1;have:k∈Region.ready .any l.toArray listed:=mem_ready.2 ⟨by simp[hs] at h1⊢;exact h1,l[k],by simp,fun e he hbi=> by have h4:=List.all_eq_true.1 hb1 e.on (List.mem_map.2 ⟨e,List.mem_filter.2 ⟨by simpa using he,hbi⟩,rfl⟩);simp only[decide_eq_true_eq] at h4;exact ihk e.on h4 (by omega)⟩
      rw[hr] at this;cases this
   obtain ⟨j,hj,hjf⟩:=hex;have:=key j hj;have hs:j < listed.size:=by rw[h.sz];omega
   simp[hs] at this hjf;rw[hjf] at this;cases this
  ·have hin:=hlow i hi;obtain ⟨h1,o,h2,h3⟩:=mem_ready.1 hi;have hil:l[i]? =some o:=by simpa using h2
   have hlt:i < l.length:=by omega
   have hs:i < listed.size:=by rw[h.sz];exact hlt
   have hit:(l.take n)[i]? =some o:=by rw[List.getElem?_take,if_pos hin];exact hil
   have hc2:(List.range n).countP (fun j=> !(listed.setIfInBounds i true).getD j true)=c:=by
    have e:(List.range n).countP (fun i=> !listed.getD i true)=(List.range n).countP (fun j=> !(listed.setIfInBounds i true).getD j true)+1:=by
     have hfun:∀j,(!listed.getD j true)=((!(listed.setIfInBounds i true).getD j true) || (j==i)):=by
      intro j;by_cases e:i=j
      ·subst e;have hh:listed.getD i true=false:=by simpa using h1
       simp only[beq_self_eq_true,Bool.or_true,hh,Bool.not_false]
      ·rw[getD_set_ne true e];have:(j==i)=false:=by simp;omega
       rw[this,Bool.or_false]
     have hsep:∀(L:List Nat),L.Nodup→i∈L→L.countP (fun j=> !listed.getD j true)=L.countP (fun j=> !(listed.setIfInBounds i true).getD j true)+1:=by
      intro L hnd hmem;induction L with
      | nil=> cases hmem
      | cons x L ihL=>
       obtain ⟨hx,hnd2⟩:=List.nodup_cons.1 hnd;rw[List.countP_cons,List.countP_cons];by_cases hxi:x=i
       ·subst hxi;have hh:listed.getD x true=false:=by simpa using h1
        have h2':(listed.setIfInBounds x true).getD x true=true:=by simp[hs]
        have hrest:L.countP (fun j=> !listed.getD j true)=L.countP (fun j=> !(listed.setIfInBounds x true).getD j true):=by apply List.countP_congr;intro j hj;rw[getD_set_ne true (show x≠j from fun e=> hx (e▸hj))]
        rw[hrest,hh,h2'];simp
       ·have hmem2:i∈L:=by rcases List.mem_cons.1 hmem with e | e;exact absurd e.symm hxi;exact e
        rw[ihL hnd2 hmem2,getD_set_ne true (show i≠x from fun e=> hxi e.symm)];omega
     exact hsep _ List.nodup_range (List.mem_range.2 hin)
    omega
   have haft:∀j∈afterOn o,listed.getD j false=true:=fun j hj=> by obtain ⟨e,he,rfl⟩:=List.mem_map.1 hj;obtain ⟨he1,he2⟩:=List.mem_filter.1 he;exact h3 e (by simpa using he1) he2
   have hfalse:listed.getD i false=false:=by simp[hs] at h1⊢;exact h1
   have htk:∀k ok,(l.take n)[k]? =some ok→l[k]? =some ok:=fun k ok hk=> by
    rw[List.getElem?_take] at hk;split at hk
    ·exact hk
    ·cases hk
   have hdt:∀k ok,(l.take n)[k]? =some ok→listed.getD k false=true→∀j∈afterOn ok,listed.getD j false=true:=fun k ok hk=> h.dc k ok (htk k ok hk);have hlo:loG (l.take n) K i≤phase K listed:=by unfold loG phase;exact List.countP_mono_left (fun k _ hk=> waitsG_listed hdt hit haft hk)
   have hhi:phase K listed≤hiG (l.take n) K i:=by
    unfold hiG phase;refine List.countP_mono_left (fun k hkK hk=> ?_);have hki:k≠i:=fun e=> by subst e;rw[hfalse] at hk;cases hk
    have hkn:=hKn k hkK;have hkl:(l.take n)[k]? =some (l[k]'(by omega)):=by rw[List.getElem?_take,if_pos hkn];exact List.getElem?_eq_getElem (by omega)
    have hnw:waitsG (l.take n) k i=false:=by
     cases hw:waitsG (l.take n) k i with
     | false=> rfl
     | true=>
      have:=waitsG_listed hdt hkl (hdt k _ hkl hk) hw;rw[hfalse] at this;cases this
    rw[hnw];simp[hki]
   have sp:=spec i o hit (phase K listed) a w hlo hhi h.j (fun t ht'=> eval_congr (h.old t (fun j o' hj _=> ht' o' (List.mem_of_getElem? hj)))) (fun j o' d hj hon hd=> h.new j o' d hj (haft j hon) hd);rw[wanted_take hn hg (List.mem_of_getElem? hit)] at sp;have hnext:∀(v:Value) (w':World),R (phase K listed) w w'→Φ i v w'→J (nextG K i (phase K listed)) w'→RG l n K J Φ a0 (listed.setIfInBounds i true) (a.put o.dst v) w':=fun v w' hu hv hj=>
    h.step hm ho hK hin hil hfalse haft hu hv hj
   unfold wpOp;simp only[h2];split
   ·rename_i hw;rw[if_pos hw] at sp;left;unfold Oper.wp;generalize (execOp a.eval o).run P w=r at sp⊢;cases r with
    | ok nx w'=>
     cases nx <;> simp only[OutG] at sp <;> simp only[Oper.upon]
     case value u=> exact ih _ _ _ (hnext _ _ sp.1 sp.2.1 sp.2.2) hc2
     case skip=> exact ih _ _ _ (hnext _ _ sp.1 sp.2.1 sp.2.2) hc2
     case enter f args=> exact sp.mono fun e w'' ⟨v,he,h4,h5,h6⟩=> by subst he;exact ih _ _ _ (hnext _ _ h4 h5 h6) hc2
    | halt x w'=> simp only[OutG] at sp
   ·rename_i hw;rw[if_neg hw] at sp;exact ih _ _ _ (hnext _ _ (hR _ w) sp.1 sp.2) hc2
def SpecG(P:Program)(L:List Oper)(K:List Nat)(J:Nat→World→Prop)(R:Nat→World→World→Prop)(Φ:Nat→Value→World→Prop)(a0:Act):Nat→List Oper→Prop
 | _,[]=> True
 | k,o::r=> OpG P L K J R Φ a0 k o∧SpecG P L K J R Φ a0 (k+1) r
theorem SpecG.all{L:List Oper}{K:List Nat}{J:Nat→World→Prop}{R:Nat→World→World→Prop}{Φ:Nat→Value→World→Prop}{a0:Act}:∀(r:List Oper) (k:Nat),SpecG P L K J R Φ a0 k r→∀i o,r[i]? =some o→OpG P L K J R Φ a0 (k+i) o
 | [],_,_,_,_,h=> by simp at h
 | o'::r,k,h,0,o,ho=> by
  have e:o'=o:=by simpa using ho
  subst e;exact h.1
 | o'::r,k,h,i+1,o,ho=> by have:=SpecG.all r (k+1) h.2 i o (by simpa using ho);rwa [show k+(i+1)=k+1+i by omega]
def LastsR(R:World→World→Prop)(p:Value→World→Prop):Prop:=∀v w w',p v w→R w w'→p v w'
def LastG(L:List Oper)(K:List Nat)(R:Nat→World→World→Prop):Nat→List (Value⊕(Value→World→Prop))→Prop
 | _,[]=> True
 | i,.inl _::r=> LastG L K R (i+1) r
 | i,.inr p::r=> (∀q,loP L K i≤q→LastsR (R q) p)∧LastG L K R (i+1) r
theorem LastG.all{L:List Oper}{K:List Nat}{R:Nat→World→World→Prop}:∀(F:List (Value⊕(Value→World→Prop))) (k:Nat),LastG L K R k F→∀i p,F[i]? =some (.inr p)→∀q,loP L K (k+i)≤q→LastsR (R q) p
 | [],_,_,_,_,h=> by simp at h
 | .inl x::r,k,h,0,p,hp=> by simp at hp
 | .inr x::r,k,h,0,p,hp=> by
  have e:x=p:=by simpa using hp
  subst e;exact h.1
 | .inl x::r,k,h,i+1,p,hp=> fun q hq=> LastG.all r (k+1) h i p (by simpa using hp) q (by rwa [show k+1+i=k+(i+1) by omega])
 | .inr x::r,k,h,i+1,p,hp=> fun q hq=> LastG.all r (k+1) h.2 i p (by simpa using hp) q (by rwa [show k+1+i=k+(i+1) by omega])
theorem Slots3.monoG{L:List Oper}{K:List Nat}{R:Nat→World→World→Prop}{F:List (Value⊕(Value→World→Prop))}(hF:LastG L K R 0 F)(i:Nat)(v:Value)(w w':World)(q:Nat)(hq:loP L K i≤q)(h:Slots3 F i v w)(u:R q w w'):Slots3 F i v w':=by
 unfold Slots3 at*;split <;> rename_i hqq <;> rw[hqq] at h
 ·exact h
 ·exact LastG.all F 0 hF i _ hqq q (by rwa [Nat.zero_add]) _ _ _ h u
 ·trivial
theorem region_gen{id:Nat}{Q:Exit→Act→World→Prop}{a:Act}{w:World}{l:List Oper}(n:Nat)(K:List Nat)(J:Nat→World→Prop)(R:Nat→World→World→Prop)(F:List (Value⊕(Value→World→Prop)))(hmix:P.follows .mixedOrders=true)(hR:∀p w,R p w w)(hF:LastG (l.take n) K R 0 F)(hn:decide (n≤l.length)=true)(hK:decide (K.Nodup∧∀k∈K,k < n)=true)(ho:onceB (l.take n) a.tmps.size=true)
 (hb:backB (l.take n)=true) (hg:guardB (l.take n)=true) (ht:tailB l n=true) (hJ0:J 0 w.drew) (spec:SpecG P (l.take n) K J R (Slots3 F) a 0 (l.take n))
 (h:∀(v:Nat→Value) w',J K.length w'→(∀i o d,(l.take n)[i]? =some o→o.dst=some d→Slots3 F i (v i) w')→wpAny P .any l.toArray Q (l.length - n) ((List.range l.length).map (fun i=> decide (i < n))).toArray (putAll v (l.take n) 0 a) w'):(Code.region id l.toArray true).wp P Q a w:=by
 have hn:n≤l.length:=of_decide_eq_true hn;have hKK:=of_decide_eq_true hK;refine wp_region_any hmix ?_;have hlen:(l.take n).length=n:=by rw[List.length_take];omega
 have main:=any_gen (P:=P) (Q:=Q) (K:=K) (J:=J) (R:=R) (Φ:=Slots3 F) (a0:=a) (m:=l.length - n) n hn hR (Slots3.monoG hF) ho hKK.1 hKK.2 hb hg ht (fun i o hi=> by have:=SpecG.all (l.take n) 0 spec i o hi;rwa [Nat.zero_add] at this) ?_ n (Array.replicate l.toArray.size false) a w.drew ?_ ?_
 ·rw[show n+(l.length - n)=l.toArray.size by simp;omega] at main;exact main
 ·intro listed a' w' hT hall;have hL:listed=((List.range l.length).map (fun i=> decide (i < n))).toArray:=by
   apply Array.ext_getElem?;intro i;by_cases hi:i < l.length
   ·have hs:i < listed.size:=by rw[hT.sz];exact hi
    have hv:listed.getD i false=decide (i < n):=by
     by_cases hin:i < n
     ·rw[hall i hin];simp[hin]
     ·rw[hT.lo i (by omega) hi];simp[hin]
    rw[Array.getD_eq_getD_getElem?,Array.getElem?_eq_getElem hs] at hv;rw[Array.getElem?_eq_getElem hs];simp only[Option.getD_some] at hv;simp[hi,hv]
   ·rw[Array.getElem?_eq_none (by rw[hT.sz];omega),Array.getElem?_eq_none (by simp;omega)]
  have hl:∀i,i < (l.take n).length→listed.getD i false=true:=fun i hi=> hall i (by omega);have key:∃v:Nat→Value,∀(i:Nat) (o:Oper) (d:Tmp),(l.take n)[i]? =some o→o.dst=some d→v i=a'.eval (.tmp d):=⟨fun i=> match ((l.take n)[i]?).bind (·.dst) with | some d=> a'.eval (.tmp d) | none=> undef,fun i o d hi hd=> by simp only[hi,Option.bind_some,hd]⟩;obtain ⟨v,hv⟩:=key;have hJ:=hT;have e:a'=putAll v (l.take n) 0 a:=by
   obtain ⟨d1,d2⟩:=putAll_df v (l.take n) 0 a;have htm:a'.tmps=(putAll v (l.take n) 0 a).tmps:=by
    apply Array.ext_getElem?;intro t;by_cases hx:∃(i:Nat) (o:Oper),(l.take n)[i]? =some o∧o.dst=some t
    ·obtain ⟨i,o,hi,hd⟩:=hx;obtain ⟨h1,h2⟩:=once_spec ho hi hd;rw[putAll_new v t (l.take n) 0 a i o hi hd h1 h2,Nat.zero_add,hv i o t hi hd];have h3:t < a'.tmps.size:=by rw[hJ.tz];exact h1
     rw[Array.getElem?_eq_getElem h3];show _=some (a'.tmps.getD t undef);rw[Array.getD_eq_getD_getElem?,Array.getElem?_eq_getElem h3];rfl
    ·have hx:∀(i:Nat) (o:Oper),(l.take n)[i]? =some o→o.dst≠some t:=fun i o hi hd=> hx ⟨i,o,hi,hd⟩;rw[putAll_old v t (l.take n) 0 a (fun o ho'=> by obtain ⟨i,hi,rfl⟩:=List.mem_iff_getElem.1 ho';exact hx i _ (List.getElem?_eq_getElem hi))]
     exact hJ.old t (fun i o hi _=> hx i o hi)
   cases a'
   cases hp:putAll v (l.take n) 0 a
   rw[hp] at htm d1;simp only[Act.mk.injEq];exact ⟨htm,hJ.df.trans d1.symm⟩
  rw[e,hL];have hph:phase K listed=K.length:=by unfold phase;exact List.countP_eq_length.2 (fun k hk=> hall k (hKK.2 k hk))
  refine h v w' (by have:=hT.j;rwa [hph] at this) (fun i o d hi hd=> ?_);rw[hv i o d hi hd];exact hJ.new i o d hi (hl i (List.getElem?_eq_some_iff.1 hi).1) hd
 ·have rep:∀i,(Array.replicate l.toArray.size false).getD i false=false:=fun i=> by rw[Array.getD_eq_getD_getElem?,Array.getElem?_replicate];split <;> rfl
  have hp0:phase K (Array.replicate l.toArray.size false)=0:=by unfold phase;exact List.countP_eq_zero.2 (fun k _ hk=> by rw[rep k] at hk;cases hk)
  exact ⟨by rw[hp0];exact hJ0,by simp,rfl,rfl,fun _ _=> rfl,fun i o d _ hl=> absurd ((rep i).symm.trans hl) (by decide),fun i _ _=> rep i,fun i o _ hl=> absurd ((rep i).symm.trans hl) (by decide)⟩
 ·have:∀i∈List.range n,(!(Array.replicate l.toArray.size false).getD i true)=true:=fun i hi=> by have hin:=List.mem_range.1 hi;rw[Array.getD_eq_getD_getElem?,Array.getElem?_replicate,if_pos (by simp;omega)];rfl
  rw[List.countP_eq_length.2 this,List.length_range]
variable {L:List Oper} {K:List Nat} {J:Nat→World→Prop} {R:Nat→World→World→Prop} {F:List (Value⊕(Value→World→Prop))} {a0:Act} {i:Nat} {o:Oper}
theorem g_read{v:Value}(hR:∀p w,R p w w)(hk:K.contains i=false)(hg:Gd3 L F a0 o)(hF:F[i]? =some (.inl v))(h:∀p a w,loG L K i≤p→p≤hiG L K i→J p w→Hold3 L a0 a→New3 L F o a w→(execOp a.eval o).run P w= .ok (.value v) w):OpG P L K J R (Slots3 F) a0 i o:=by intro p a w h1 h2 hJ hH hN;rw[if_pos (hg a w hH hN),h p a w h1 h2 hJ hH hN];exact ⟨hR p w,by unfold Slots3;rw[hF],by unfold nextG;rw[if_neg (by rw[hk];decide)];exact hJ⟩
theorem g_move{v:Value}(hR:∀p w,R p w w)(hk:K.contains i=false)(hg:Gd3 L F a0 o)(ho:o.op= .move x)(hF:F[i]? =some (.inl v))(hx:Kn3 L F a0 o x v):OpG P L K J R (Slots3 F) a0 i o:=
 g_read hR hk hg hF (fun p a w _ _ _ hH hN=> by simp[execOp,ho,hx a w hH hN])
theorem g_assign{v:Value}(hR:∀p w,R p w w)(hk:K.contains i=false)(hg:Gd3 L F a0 o)(ho:o.op= .assign x)(hF:F[i]? =some (.inl v))(hx:Kn3 L F a0 o x v):OpG P L K J R (Slots3 F) a0 i o:=
 g_read hR hk hg hF (fun p a w _ _ _ hH hN=> by simp[execOp,ho,hx a w hH hN])
theorem g_un{u v:Value}(hR:∀p w,R p w w)(hk:K.contains i=false)(hg:Gd3 L F a0 o)(hF:F[i]? =some (.inl v))(hx:Kn3 L F a0 o x u)(hr:∀(ev:Operand→Value) (w:World),ev x=u→(execOp ev o).run P w= .ok (.value v) w):OpG P L K J R (Slots3 F) a0 i o:=
 g_read hR hk hg hF (fun _ a w _ _ _ hH hN=> hr a.eval w (hx a w hH hN))
theorem g_bin{u u' v:Value}(hR:∀p w,R p w w)(hk:K.contains i=false)(hg:Gd3 L F a0 o)(hF:F[i]? =some (.inl v))(hx:Kn3 L F a0 o x u)(hy:Kn3 L F a0 o y u')(hr:∀(ev:Operand→Value) (w:World),ev x=u→ev y=u'→(execOp ev o).run P w= .ok (.value v) w):OpG P L K J R (Slots3 F) a0 i o:=
 g_read hR hk hg hF (fun _ a w _ _ _ hH hN=> hr a.eval w (hx a w hH hN) (hy a w hH hN))
theorem g_load1(pt:Addr)(v:Value)(hR:∀p w,R p w w)(hk:K.contains i=false)(hg:Gd3 L F a0 o)(ho:o.op= .load ty x)(hF:F[i]? =some (.inl v))(hx:Kn3 L F a0 o x (.pointer (some pt)))(hu:P.underlying ty=some d)(hd:aggD d=false)
 (hc:∀p w,loG L K i≤p→p≤hiG L K i→J p w→w.cell? pt=some v):OpG P L K J R (Slots3 F) a0 i o:=
 g_read hR hk hg hF (fun p a w h1 h2 hJ hH hN=> by
  have hagg:(isAgg ty).run P w= .ok false w:=by unfold isAgg;rw[Sem.run_bind,run_underlying hu w];cases d <;> simp_all [aggD]
  simp[execOp,ho,hx a w hH hN,Instr.loadAt,Instr.sureAddr,loadVar,Sem.run_bind,hagg,hc p w h1 h2 hJ])
theorem g_loadAgg(ty:TypeId)(g off:Nat)(vs:List Value)(hR:∀p w,R p w w)(hk:K.contains i=false)(hg:Gd3 L F a0 o)(ho:o.op= .load ty x)(hF:F[i]? =some (.inl (.agg vs.toArray)))(hx:Kn3 L F a0 o x (.pointer (some ⟨g,off,none⟩)))(hu:P.underlying ty=some d)(hd:aggD d=true)
 (hi:(P.info? ty).map (·.size)=some vs.length) (hc:∀p w,loG L K i≤p→p≤hiG L K i→J p w→∀j v,vs[j]? =some v→w.cell? ⟨g,off+j,none⟩=some v):OpG P L K J R (Slots3 F) a0 i o:=
 g_read hR hk hg hF (fun p a w h1 h2 hJ hH hN=> by simp only[execOp,ho,hx a w hH hN,Instr.loadAt,Instr.sureAddr,Sem.run_bind,Sem.run_pure,Result.andThen_ok,run_loadVar_at g off ty vs hu hd hi (hc p w h1 h2 hJ)])
def KnL(L:List Oper)(F:List (Value⊕(Value→World→Prop)))(a0:Act)(o:Oper):List Operand→List Value→Prop
 | [],[]=> True
 | x::xs,v::vs=> Kn3 L F a0 o x v∧KnL L F a0 o xs vs
 | _,_=> False
theorem KnL.eval{L:List Oper}{F:List (Value⊕(Value→World→Prop))}{a0:Act}{o:Oper}{a:Act}{w:World}(hH:Hold3 L a0 a)(hN:New3 L F o a w):∀{xs:List Operand} {vs:List Value},KnL L F a0 o xs vs→xs.map a.eval=vs
 | [],[],_=> rfl
 | x::xs,v::vs,h=> by rw[List.map_cons,h.1 a w hH hN,KnL.eval hH hN h.2]
 | [],_::_,h=> h.elim
 | _::_,[],h=> h.elim
theorem gn_norm{ops:Array Oper}{Q:Exit→Act→World→Prop}{w:World}{a a':Act}{md:Region.Mode}{n:Nat}(h:a=a')(hk:wpAny P md ops Q n listed a' w):wpAny P md ops Q n listed a w:=h▸hk
theorem g_call(f:FuncId)(args:List Operand)(ts:Array TypeId)(vals:List Value)(hg:Gd3 L F a0 o)(ho:o.op= .call {callee:= .value (.func f),args:=args.toArray,argTypes:=ts})(hb:hasBody P f=true)(hx:KnL L F a0 o args vals)
 (C:∀p w,loG L K i≤p→p≤hiG L K i→J p w→Calls P f vals.toArray w fun e w'=> ∃v,e= .returned v∧R p w w'∧Slots3 F i v w'∧J (nextG K i p) w'):OpG P L K J R (Slots3 F) a0 i o:=by
 intro p a w h1 h2 hJ hH hN;have hv:args.map a.eval=vals:=KnL.eval hH hN hx;rw[if_pos (hg a w hH hN)];have hr:(execOp a.eval o).run P w= .ok (.enter f (args.map a.eval).toArray) w:=by simp[execOp,ho,resolve,Deferred.ofValue,Act.eval,invoke];exact run_callFunc_body w f _ hb
 rw[hr,hv];exact C p w h1 h2 hJ
end
end Go.Proofs.YtjnjpgdoncbahaaGreatDoor
