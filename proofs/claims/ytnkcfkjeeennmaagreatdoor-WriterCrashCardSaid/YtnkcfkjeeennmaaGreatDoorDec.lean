/- cartularyref03.Decimal: the decimal numeral of every uint64 (no further condition). text.Decimal, writer.Leaf and the document's by contracts (out of the text Leafname, without its row). The steps of a region by what its slots hold (Typed): each slot holds a value that is known, or a value of which something is known that lasts. Names end in 3 beside Typed2's. The statements' marks as texts: word, markText, isText by contracts. checkpoint.Format of a checkpoint that may be, without further lines, by contract. -/
import Derived.Test.YtnkcfkjeeennmaaGreatDoorUint
import Derived.Test.YtnkcfkjeeennmaaGreatDoorAgg
import Derived.Test.YtnkcfkjeeennmaaGreatDoorApp
import Derived.Deep.Cut
import Derived.Test.YtnkcfkjeeennmaaGreatDoorHRow
import Derived.Test.YtnkcfkjeeennmaaGreatDoorEqual
import Derived.Test.YtnkcfkjeeennmaaGreatDoorShelf
import Derived.Lib.ItoaMem
import Derived.Lib.ItoaLen
import Derived.Test.YtnkcfkjeeennmaaGreatDoorIntOps
import Derived.Test.YtnkcfkjeeennmaaGreatDoorRune
import Derived.Test.YtnkcfkjeeennmaaGreatDoorShaU
namespace Go.Proofs.YtnkcfkjeeennmaaGreatDoor
open Go.RowKit Go.Lib
set_option maxRecDepth 20000
set_option maxHeartbeats 8000000
variable {c x y:Operand}{ty:TypeId}
theorem Ext.grow(w:World)(k:Nat)(os:Array Obj):Ext w (Sort.grow (w.drewN k) os):=
 Ext.of_below (by have:Below w.heap.size (w.drewN k) (Sort.grow (w.drewN k) os):=⟨rfl,rfl,rfl,by simp[Sort.grow,World.drewN],fun b hb=> by simp[Sort.grow,World.drewN,Array.getElem?_append,hb]⟩;exact ⟨rfl,rfl,rfl,this.size,fun b hb=> this.block b hb⟩)
def leafB:List UInt8:= [108,101,97,102,47]
theorem dec_len(u:Nat)(h:u < 18446744073709551616):(Lib.decDigits u).length≤20:=by
 rw[Lib.decDigits_length];by_cases h1:1≤u
 ·have:=Lib.numDigits_eq u h1 h;split at this <;> omega
 ·rw[Lib.nDigits_small (by omega)];omega
theorem decimal_any(u:Nat)(hu:u < 18446744073709551616)(w:World)(ht:Lib.TabIs Tryz.prog w "internal/strconv.uint64pow10" .u64 Lib.pow10Tab):
 Calls Tryz.prog 100 #[.int .u64 u] w fun e w'=> e= .returned (.string (str (Lib.decDigits u)))∧Ext w w':=by
 have C:=fmtu u hu w ht;clear ht;go_enter Tryz.func100,Tryz.ntmps100;go_wp2_with fail;refine C.mono ?_;rintro e w1 ⟨rfl,k,os,rfl⟩;go_wp2_with fail;go_ret;exact ⟨rfl,Ext.grow w k os⟩
theorem leaf_any(u:Nat)(hu:u < 18446744073709551616)(w:World)(ht:Lib.TabIs Tryz.prog w "internal/strconv.uint64pow10" .u64 Lib.pow10Tab):
 Calls Tryz.prog 46 #[.int .u64 u] w fun e w'=> e= .returned (.string (str leafB++str (Lib.decDigits u)))∧Ext w w':=by
 have C:=decimal_any u hu w ht;have hl:¬9223372036854775807 < 5+(Lib.decDigits u).length:=by have:=dec_len u hu;omega
 clear ht;go_enter Tryz.func46,Tryz.ntmps46;go_wp2_with fail;refine C.mono ?_;rintro e w1 ⟨rfl,hU⟩;go_wp2_with fail;go_ret;exact ⟨rfl,hU⟩
def Lasts(p:Value→World→Prop):Prop:=∀v w w',p v w→Ext w w'→p v w'
def Slots3(F:List (Value⊕(Value→World→Prop)))(i:Nat)(v:Value)(w:World):Prop:=
 match F[i]? with
 | some (.inl x)=> v=x
 | some (.inr p)=> p v w
 | none=> True
theorem Slots3.mono{F:List (Value⊕(Value→World→Prop))}(hF:∀p,.inr p∈F→Lasts p)(i:Nat)(v:Value)(w w':World)(h:Slots3 F i v w)(u:Ext w w'):Slots3 F i v w':=by
 unfold Slots3 at*;split <;> rename_i hq <;> rw[hq] at h
 ·exact h
 ·exact hF _ (List.mem_of_getElem? hq) _ _ _ h u
 ·trivial
section
variable {P:Program} {l:List Oper} {w0:World} {F:List (Value⊕(Value→World→Prop))} {a0:Act} {i:Nat} {o:Oper}
def Hold3(l:List Oper)(a0 a:Act):Prop:=∀t,(∀o'∈l,o'.dst≠some t)→a.eval (.tmp t)=a0.eval (.tmp t)
def New3(l:List Oper)(F:List (Value⊕(Value→World→Prop)))(o:Oper)(a:Act)(w:World):Prop:=∀j o' d,l[j]? =some o'→j∈afterOn o→o'.dst=some d→Slots3 F j (a.eval (.tmp d)) w
def Kn3(l:List Oper)(F:List (Value⊕(Value→World→Prop)))(a0:Act)(o:Oper)(x:Operand)(v:Value):Prop:=∀a w,Hold3 l a0 a→New3 l F o a w→a.eval x=v
def writesNot3(l:List Oper)(t:Nat):Bool:=l.all fun o=> o.dst !=some t
theorem kn_old3(t:Nat){v:Value}(hn:writesNot3 l t=true)(h:a0.eval (.tmp t)=v):Kn3 l F a0 o (.tmp t) v:=fun a w hH _=>
 (hH t (fun o' ho'=> by simpa using List.all_eq_true.1 hn o' ho')).trans h
theorem kn_new3(j:Nat){d:Nat}{v:Value}{o':Oper}(h1:l[j]? =some o')(h2:o'.dst=some d)(h3:(afterOn o).contains j=true)(h4:F[j]? =some (.inl v)):Kn3 l F a0 o (.tmp d) v:=fun a w _ hN=> by have:=hN j o' d h1 (by simpa using h3) h2;unfold Slots3 at this;rw[h4] at this;exact this
theorem kn_const3{v:Value}:Kn3 l F a0 o (.const v) v:=fun _ _ _ _=> rfl
def Gd3(l:List Oper)(F:List (Value⊕(Value→World→Prop)))(a0:Act)(o:Oper):Prop:=
 ∀a w,Hold3 l a0 a→New3 l F o a w→Region.wanted o (yielded l.toArray a.tmps)=true
theorem gd_none3(h:o.guard=none):Gd3 l F a0 o:=fun a w _ _=> by unfold Region.wanted;rw[h]
theorem gd_some3(j:Nat){b:Bool}{d:Nat}{o':Oper}(h:o.guard=some (j,b))(h1:l[j]? =some o')(h2:o'.dst=some d)(h3:(afterOn o).contains j=true)(h4:F[j]? =some (.inl (.bool b))):Gd3 l F a0 o:=fun a w hH hN=> by
 have he:=kn_new3 (a0:=a0) j h1 h2 h3 h4 a w hH hN;have ht:a.tmps[d]? =some (.bool b):=by
  have he:a.tmps.getD d undef= .bool b:=he;rw[Array.getD_eq_getD_getElem?] at he;cases hq:a.tmps[d]? with
  | none=> rw[hq] at he;simp[undef] at he
  | some x=> rw[hq] at he;simpa using he
 unfold Region.wanted;rw[h];simp[yielded,h1,h2,ht]
theorem ty_val3{v:Value}(hg:Gd3 l F a0 o)(hF:F[i]? =some (.inl v))(h:∀a w,Ext w0 w→Hold3 l a0 a→New3 l F o a w→(execOp a.eval o).run P w= .ok (.value v) w):OpSpec P l w0 (Slots3 F) a0 i o:=by intro a w hX hH hN;rw[if_pos (hg a w hH hN),h a w hX hH hN];exact ⟨Upd.refl _ _,by unfold Slots3;rw[hF]⟩
theorem ty_move3{v:Value}(hg:Gd3 l F a0 o)(ho:o.op= .move x)(hF:F[i]? =some (.inl v))(hx:Kn3 l F a0 o x v):OpSpec P l w0 (Slots3 F) a0 i o:=
 ty_val3 hg hF (fun a w _ hH hN=> by simp[execOp,ho,hx a w hH hN])
theorem ty_assign3{v:Value}(hg:Gd3 l F a0 o)(ho:o.op= .assign x)(hF:F[i]? =some (.inl v))(hx:Kn3 l F a0 o x v):OpSpec P l w0 (Slots3 F) a0 i o:=
 ty_val3 hg hF (fun a w _ hH hN=> by simp[execOp,ho,hx a w hH hN])
theorem ty_not3(b:Bool)(hg:Gd3 l F a0 o)(ho:o.op= .unOp .not ty x)(hF:F[i]? =some (.inl (.bool !b)))(hx:Kn3 l F a0 o x (.bool b)):OpSpec P l w0 (Slots3 F) a0 i o:=
 ty_val3 hg hF (fun a w _ hH hN=> by simp[execOp,ho,hx a w hH hN,Op.unary])
theorem ty_pickF3{v:Value}(hg:Gd3 l F a0 o)(ho:o.op= .pick c x y)(hF:F[i]? =some (.inl v))(hc:Kn3 l F a0 o c (.bool false))(hy:Kn3 l F a0 o y v):OpSpec P l w0 (Slots3 F) a0 i o:=
 ty_val3 hg hF (fun a w _ hH hN=> by simp[execOp,ho,hc a w hH hN,hy a w hH hN,asBool])
theorem ty_pickT3{v:Value}(hg:Gd3 l F a0 o)(ho:o.op= .pick c x y)(hF:F[i]? =some (.inl v))(hc:Kn3 l F a0 o c (.bool true))(hx:Kn3 l F a0 o x v):OpSpec P l w0 (Slots3 F) a0 i o:=
 ty_val3 hg hF (fun a w _ hH hN=> by simp[execOp,ho,hc a w hH hN,hx a w hH hN,asBool])
theorem ty_load13(p:Addr)(v:Value)(hg:Gd3 l F a0 o)(ho:o.op= .load ty x)(hF:F[i]? =some (.inl v))(hx:Kn3 l F a0 o x (.pointer (some p))){d:TypeDesc}(hu:P.underlying ty=some d)(hd:aggD d=false)
 (hc:∀w,Ext w0 w→w.cell? p=some v):OpSpec P l w0 (Slots3 F) a0 i o:=
 ty_val3 hg hF (fun a w hX hH hN=> by
  have hc:=hc w hX;have hagg:(isAgg ty).run P w= .ok false w:=by unfold isAgg;rw[Sem.run_bind,run_underlying hu w];cases d <;> simp_all [aggD]
  simp[execOp,ho,hx a w hH hN,Instr.loadAt,Instr.sureAddr,loadVar,Sem.run_bind,hagg,hc])
theorem ty_loadAgg3(ty:TypeId)(g off:Nat)(vs:List Value)(hg:Gd3 l F a0 o)(ho:o.op= .load ty x)(hF:F[i]? =some (.inl (.agg vs.toArray)))(hx:Kn3 l F a0 o x (.pointer (some ⟨g,off,none⟩))){d:TypeDesc}(hu:P.underlying ty=some d)(hd:aggD d=true)
 (hi:(P.info? ty).map (·.size)=some vs.length) (hc:∀w,Ext w0 w→∀j v,vs[j]? =some v→w.cell? ⟨g,off+j,none⟩=some v):OpSpec P l w0 (Slots3 F) a0 i o:=
 ty_val3 hg hF (fun a w hX hH hN=> by simp only[execOp,ho,hx a w hH hN,Instr.loadAt,Instr.sureAddr,Sem.run_bind,Sem.run_pure,Result.andThen_ok,run_loadVar_at g off ty vs hu hd hi (hc w hX)])
theorem ty_call3(f:FuncId)(args:List Operand)(ts:Array TypeId)(hg:Gd3 l F a0 o)(ho:o.op= .call {callee:= .value (.func f),args:=args.toArray,argTypes:=ts})(hb:hasBody P f=true)
 (C:∀a w,Ext w0 w→Hold3 l a0 a→New3 l F o a w→Calls P f (args.map a.eval).toArray w fun e w'=> ∃v,e= .returned v∧Ext w w'∧Slots3 F i v w'):OpSpec P l w0 (Slots3 F) a0 i o:=by
 intro a w hX hH hN;rw[if_pos (hg a w hH hN)];have hr:(execOp a.eval o).run P w= .ok (.enter f (args.map a.eval).toArray) w:=by simp[execOp,ho,resolve,Deferred.ofValue,Act.eval,invoke];exact run_callFunc_body w f _ hb
 rw[hr];exact C a w hX hH hN
theorem ty_call13(f:FuncId)(x:Operand)(ts:Array TypeId)(u:Value)(hg:Gd3 l F a0 o)(ho:o.op= .call {callee:= .value (.func f),args:=#[x],argTypes:=ts})(hb:hasBody P f=true)(hx:Kn3 l F a0 o x u)
 (C:∀w,Ext w0 w→Calls P f #[u] w fun e w'=> ∃v,e= .returned v∧Ext w w'∧Slots3 F i v w'):OpSpec P l w0 (Slots3 F) a0 i o:=
 ty_call3 f [x] ts hg ho hb (fun a w hX hH hN=> by simp only[List.map_cons,List.map_nil,hx a w hH hN];exact C w hX)
def SpecFrom3(P:Program)(l:List Oper)(w0:World)(Φ:Nat→Value→World→Prop)(a0:Act):Nat→List Oper→Prop
 | _,[]=> True
 | k,o::r=> OpSpec P l w0 Φ a0 k o∧SpecFrom3 P l w0 Φ a0 (k+1) r
theorem SpecFrom3.all{Φ:Nat→Value→World→Prop}:∀(r:List Oper) (k:Nat),SpecFrom3 P l w0 Φ a0 k r→∀i o,r[i]? =some o→OpSpec P l w0 Φ a0 (k+i) o
 | [],_,_,_,_,h=> by simp at h
 | o'::r,k,h,0,o,ho=> by
  have e:o'=o:=by simpa using ho
  subst e;exact h.1
 | o'::r,k,h,i+1,o,ho=> by rw[show k+(i+1)=k+1+i by omega];exact SpecFrom3.all r (k+1) h.2 i o (by simpa using ho)
theorem region_slots3{id:Nat}{Q:Exit→Act→World→Prop}{a:Act}{w:World}{l:List Oper}(F:List (Value⊕(Value→World→Prop)))(hmix:P.follows .mixedOrders=true)(hF:∀p,.inr p∈F→Lasts p)(ho:onceB l a.tmps.size=true)(hb:backB l=true)(spec:SpecFrom3 P l w (Slots3 F) a 0 l)
 (h:∀(v:Nat→Value) w',Ext w w'→(∀i o d,l[i]? =some o→o.dst=some d→Slots3 F i (v i) w')→Q .normal (putAll v l 0 a) w'):(Code.region id l.toArray true).wp P Q a w:=
 region_typed (Slots3 F) hmix (Slots3.mono hF) ho hb (fun i o hi=> by have:=SpecFrom3.all l 0 spec i o hi;rwa [Nat.zero_add] at this) h
theorem q_norm3{Q:Exit→Act→World→Prop}{x:Exit}{a a':Act}{w:World}(h:a=a')(k:Q x a' w):Q x a w:=by subst h;exact k
theorem slot_val3{v:Value}{w:World}{x:Value}(h:Slots3 F i v w)(hF:F[i]? =some (.inl x)):v=x:=by unfold Slots3 at h;rw[hF] at h;exact h
end
section
variable {P:Program} {l:List Oper} {w0:World} {F:List (Value⊕(Value→World→Prop))} {a0:Act} {i:Nat} {o:Oper}
theorem ty_run3(hg:Gd3 l F a0 o)(h:∀a w,Ext w0 w→Hold3 l a0 a→New3 l F o a w→∃v w',(execOp a.eval o).run P w= .ok (.value v) w'∧Ext w w'∧Slots3 F i v w'):OpSpec P l w0 (Slots3 F) a0 i o:=by intro a w hX hH hN;obtain ⟨v,w',hr,hu,hs⟩:=h a w hX hH hN;rw[if_pos (hg a w hH hN),hr];exact ⟨hu,hs⟩
theorem ty_fieldAddr3{t:TypeId}{f:Nat}(vx v:Value)(hg:Gd3 l F a0 o)(ho:o.op= .fieldAddr t x f)(hF:F[i]? =some (.inl v))(hx:Kn3 l F a0 o x vx)(hr:∀w:World,(Instr.fieldAt t vx f).run P w= .ok v w):OpSpec P l w0 (Slots3 F) a0 i o:=
 ty_val3 hg hF (fun a w _ hH hN=> by simp[execOp,ho,hx a w hH hN,hr w])
theorem known_call3{f:FuncId}{args:Array Value}{w:World}{v:Value}(hF:F[i]? =some (.inl v))(C:Calls P f args w fun e w'=> e= .returned v∧Ext w w'):Calls P f args w fun e w'=> ∃r,e= .returned r∧Ext w w'∧Slots3 F i r w':=
 C.mono (fun e w' ⟨h1,h2⟩=> ⟨v,h1,h2,by unfold Slots3;rw[hF]⟩)
theorem slot_prop3{v:Value}{w:World}{p:Value→World→Prop}(h:Slots3 F i v w)(hF:F[i]? =some (.inr p)):p v w:=by unfold Slots3 at h;rw[hF] at h;exact h
theorem new_prop3(j:Nat){d:Nat}{p:Value→World→Prop}{o':Oper}{a:Act}{w:World}(hN:New3 l F o a w)(h1:l[j]? =some o')(h2:o'.dst=some d)(h3:(afterOn o).contains j=true)(h4:F[j]? =some (.inr p)):p (a.eval (.tmp d)) w:=
 slot_prop3 (hN j o' d h1 (by simpa using h3) h2) h4
end
def Tab10(w:World):Prop:=Lib.TabIs Tryz.prog w "internal/strconv.uint64pow10" .u64 Lib.pow10Tab
theorem Tab10.ext{w w':World}(h:Tab10 w)(u:Ext w w'):Tab10 w':=by
 unfold Tab10 Lib.TabIs World.var? at*;cases hg:Tryz.prog.globalNamed "internal/strconv.uint64pow10" with
 | none=> simp[hg] at h
 | some g=>
  simp only[hg,Option.bind_some] at h⊢;cases hb:w.heap[g]? with
  | none=> simp[hb] at h
  | some o=> rw[Ext.blk u hb];rw[hb] at h;exact h
def ckptB(o:List UInt8)(n:Nat)(root:HB):List UInt8:=o++ [10]++Lib.decDigits n++ [10]++b64 root++ [10]
def ckC(o:List UInt8)(n:Nat)(root:HB):List Value:= .string (str o):: .int .u64 n::(root.map u8v++ [.slice none 0 0])
abbrev ckV(o:List UInt8)(n:Nat)(root:HB):Value:= .agg (ckC o n root).toArray
theorem ck_get(o:List UInt8)(n:Nat)(root:HB)(hr:root.length=32):(ckC o n root).toArray[34]? =some (.slice none 0 0):=by simp[ckC,hr]
theorem ck_root(o:List UInt8)(n:Nat)(root:HB)(j:Nat)(hj:j < root.length):(ckC o n root).toArray[2+j]? =some (u8v root[j]):=by simp only[ckC,List.getElem?_toArray];rw[show 2+j=j+1+1 by omega,List.getElem?_cons_succ,List.getElem?_cons_succ,List.getElem?_append_left (by simpa using hj)];simp[hj]
theorem run_app_nil{P:Program}(w:World)(t ty e:TypeId)(i:TypeInfo)(ht:P.underlying t=some (.slice e))(hi:P.info? e=some i)(g n c:Nat)(hnc:n≤c)(hg:∃cs te f,w.heap[g]? =some (.cells cs te f)):
 (Builtin.append_ #[t,t] ty #[.slice (some ⟨g,0,none⟩) n c,.slice none 0 0]).run P w= .ok (.slice (some ⟨g,0,none⟩) n c) w:=by
 simp[Builtin.append_,run_underlying ht,sizeOf,typeInfo,hi,Builtin.lenOf,Builtin.firstCells,loadCells,loadCellsFrom,hnc,storeCells]
theorem run_build3{P:Program}(w:World)(t e:TypeId)(ie:TypeInfo)(hu:P.underlying t=some (.slice e))(hq:P.info? e=some ie)(hz:ie.zero=some (.string ⟨#[]⟩))(hs:ie.size=1)(a b c:ByteArray):
 (Instr.buildSlice t 3 #[(0,.string a),(1,.string b),(2,.string c)]).run P w= .ok (.slice (some ⟨w.heap.size,0,none⟩) 3 3) (w.alloc (.cells #[.string a,.string b,.string c] e)):=by
 cases ie
 simp only at hs hz;subst hs;refine run_buildSlice (P:=P) w t e 3 _ #[.string a,.string b,.string c] _ (.string ⟨#[]⟩) hu hq hz (by simp) (by simp) ?_;simp[Instr.fill,Value.cells,Builtin.zeroCells,Array.range];rfl
theorem run_root{w:World}{g:Nat}{o:List UInt8}{n:Nat}{root:HB}(hr:root.length=32)(hq:w.heap[g]? =some (.cells (ckC o n root).toArray 32 (0,0))):
 (convert 165 9 (.slice (some ⟨g,2,none⟩) 32 32)).run Tryz.prog w= .ok (.string (str root)) w:=by
 have e:=run_convert_bytes_arg (P:=Tryz.prog) w 165 5 Tryz.underlying165 Tryz.underlying5 g 2 32 32 (root.map fun c=> (c.toNat:Int)) (by simp[hr]) (fun i hi=> by
  have hi2:i < root.length:=by rw[hr];exact hi
  rw[cell_of_blk hq,ck_root o n root i hi2];simp[hi2]) 9 Tryz.underlying9
 rw[e,strOfNums_str]
theorem run_slArr(w:World)(g off:Nat):(Instr.sliceAt 30 (.pointer (some ⟨g,off,none⟩)) none none none).run Tryz.prog w= .ok (.slice (some ⟨g,off,none⟩) 32 32) w:=by obtain ⟨i0,hi0,hz0,hz1,hz2⟩:=info_parts info_u8;simp[Instr.sliceAt,run_underlying Tryz.underlying30,Instr.sureAddr,Instr.sliceBounds,sizeOf,typeInfo,hi0,hz1,Addr.add]
theorem body_dec:hasBody Tryz.prog 100=true:=by kernel_rfl
theorem body_b64:hasBody Tryz.prog 133=true:=by kernel_rfl
theorem info_strF:(Tryz.prog.info? 9).map (fun i=> (i.zero,i.size,i.bytes))=some (some (.string ⟨#[]⟩),1,16):=by kernel_rfl
def FmRel(w2:World)(iv:Value)(wr:World):Prop:=iv= .int .i64 0∧wr=w2
def P3(a b c:ByteArray)(v:Value)(w:World):Prop:=∃g,v= .slice (some ⟨g,0,none⟩) 3 3∧w.heap[g]? =some (.cells #[.string a,.string b,.string c] 9 (0,0))
theorem p3_lasts(a b c:ByteArray):Lasts (P3 a b c):=fun v w w' ⟨g,h1,h2⟩ u=> ⟨g,h1,Ext.blk u h2⟩
theorem format_any(w:World)(o:List UInt8)(n:Nat)(root:HB)(hr:root.length=32)(ho:nameB o=true)(hol:o.length≤64)(hn:n≤1048576)(hB:BlankTab w)(hU:Lib.Utf8Tabs 17 18 w)(ht:Tab10 w):
 Calls Tryz.prog 89 #[ckV o n root] w fun e w'=> e= .returned (.tuple #[.string (str (ckptB o n root)),.nilIface])∧Ext w w':=by
 have X0:=(Upd.refl none' w).alloc (.cells (ckC o n root).toArray 32);have HQ:=ZA (blk_alloc w (.cells (ckC o n root).toArray 32));have HX:=ZA X0;have HRL:=ZA hr;have HOL:=ZA hol;have C:=name_any (w.alloc (.cells (ckC o n root).toArray 32)) o (by omega) (hB.ext X0) (Utf8Tabs_below hU (Ext.below X0 (Nat.le_refl _)));rw[ho] at C;have X0':=X0;generalize hW:w.alloc (.cells (ckC o n root).toArray 32)=W at*;have c0:W.cell? ⟨w.heap.size,0,none⟩=some (.string (str o)):=cell_of_blk HQ.o 0;have c1:W.cell? ⟨w.heap.size,1,none⟩=some (.int .u64 n):=cell_of_blk HQ.o 1;have c3:W.cell? ⟨w.heap.size,34,none⟩=some (.slice none 0 0):=(cell_of_blk HQ.o 34).trans (ck_get o n root hr);have HC0:=ZA c0;have HC1:=ZA c1;have HC3:=ZA c3;have hni:¬(1048576:Int) < n:=by omega
 have HHN:=ZA hn;have HT:=ZA (ht.ext X0');clear hr ho hol hn hB hU ht;go_enter Tryz.func89,Tryz.ntmps89;go_wp2_with fail;refine C.mono ?_;rintro e w1 ⟨rfl,hx1⟩;have HX1:=ZA (HX.o.trans hx1);have d1:w1.cell? ⟨w.heap.size,1,none⟩=some (.int .u64 n):=Ext.cellv hx1 HC1.o;have d3:w1.cell? ⟨w.heap.size,34,none⟩=some (.slice none 0 0):=Ext.cellv hx1 HC3.o;have HQ1:=ZA (Ext.blk hx1 HQ.o);have HT1:=ZA (HT.o.ext hx1);have HD0:=ZA (Ext.cellv hx1 HC0.o);have HD1:=ZA d1;have HD3:=ZA d3;clear hx1 C c0 c1 c3 X0 X0';go_wp2_with fail;go_loopw [15] (fun iv wr=> FmRel w1 iv wr) (fun _ _=> 0);case atStart=> exact ⟨rfl,rfl⟩
 case round=>
  obtain ⟨rfl,hw⟩:=hrel;subst hw;go_wp2_with fail;refine region_slots3 [.inl (.pointer (some ⟨w.heap.size,0,none⟩)),.inl (.string (str o)),.inl (.pointer (some ⟨w.heap.size,1,none⟩)),.inl (.int .u64 n),.inl (.string (str (Lib.decDigits n))),.inl (.pointer (some ⟨w.heap.size,2,none⟩)),.inl (.slice (some ⟨w.heap.size,2,none⟩) 32 32),.inl (.string (str root)),.inl (.string (str (b64 root))),.inr (P3 (str o) (str (Lib.decDigits n)) (str (b64 root))),.inl (.pointer (some ⟨w.heap.size,34,none⟩)),.inl (.slice none 0 0),.inr (P3 (str o) (str (Lib.decDigits n)) (str (b64 root))),.inr (P3 (str o) (str (Lib.decDigits n)) (str (b64 root)))] (by kernel_rfl) ?_ (by rfl) (by rfl) ?_ ?_
  ·intro p hp;simp only[List.mem_cons,reduceCtorEq,Sum.inr.injEq,false_or,or_false,List.not_mem_nil,or_self] at hp;subst hp;exact p3_lasts _ _ _
  rotate_left
  ·intro v' w' X hv;obtain ⟨g,h6,hg⟩:=(slot_prop3 (hv 13 _ 6 rfl rfl) rfl:P3 _ _ _ (v' 13) w');have HXF:=ZA (HX1.o.trans X);have HG:=ZA hg;clear X hv;refine q_norm (by simp only[putAll];rewrite[h6];go_simp;all_goals exact rfl) ?_;clear h6 hg;have CJ:=Tryz.strings_Join g 0 3 [str o,str (Lib.decDigits n),str (b64 root)] ⟨#[10]⟩ w' (fun j x hx=> by
    have hj:j=0∨j=1∨j=2:=by have:=(List.getElem?_eq_some_iff.1 hx).1;simp at this;omega
    rw[cell_of_blk HG.o];rcases hj with rfl | rfl | rfl <;> simp at hx⊢ <;> exact hx) (lt_of_blk HG.o) (by simp) (by simp) (by have h1:=dec_len n (by have:=HHN.o;omega);have h2:=b64_len root;have h3:=HOL.o;have h4:=HRL.o;simp[Lib.join];omega)
   have HJ:Lib.join (([str o,str (Lib.decDigits n),str (b64 root)]:List ByteArray).map (·.data.toList)) (⟨#[10]⟩:ByteArray).data.toList=o++ [10]++Lib.decDigits n++ [10]++b64 root:=by simp[Lib.join,List.intercalate]
   rw[HJ] at CJ;obtain ⟨J,hJ⟩:∃J,J=o++ [10]++Lib.decDigits n++ [10]++b64 root:=⟨_,rfl⟩;have HF:=ZA (show str J++⟨#[10]⟩=str (ckptB o n root) by rw[hJ];apply ByteArray.ext;simp[ckptB])
   have hJl:¬9223372036854775807 < J.length+1:=by have h1:=dec_len n (by have:=HHN.o;omega);have h2:=b64_len root;have h3:=HOL.o;have h4:=HRL.o;rw[hJ];simp only[List.length_append,List.length_singleton];omega
   have CJ2:Calls Tryz.prog 134 #[.slice (some ⟨g,0,none⟩) 3 3,.string ⟨#[10]⟩] w' fun e w''=> e= .returned (.string (str J))∧Below w'.heap.size w' w'':=by rw[hJ];exact CJ
   clear CJ HJ hJ;go_wp2_with fail;refine CJ2.mono ?_;rintro e w8 ⟨rfl,hb8⟩;have HXG:=ZA (HXF.o.trans (Ext.of_below hb8));clear hb8 CJ2;go_wp2_with fail;go_ret2;exact ⟨by rw[←HF.o];rfl,HXG.o⟩
  refine ⟨ty_fieldAddr3 _ _ (gd_none3 rfl) rfl rfl (kn_old3 1 rfl rfl) (fun w1=> by kernel_rfl),?_⟩;refine ⟨ty_load13 ⟨w.heap.size,0,none⟩ _ (gd_none3 rfl) rfl rfl (kn_new3 0 rfl rfl rfl rfl) Tryz.underlying9 rfl (fun w7 hX=> Ext.cellv hX HD0.o),?_⟩;refine ⟨ty_fieldAddr3 _ _ (gd_none3 rfl) rfl rfl (kn_old3 1 rfl rfl) (fun w1=> by kernel_rfl),?_⟩;refine ⟨ty_load13 ⟨w.heap.size,1,none⟩ _ (gd_none3 rfl) rfl rfl (kn_new3 2 rfl rfl rfl rfl) Tryz.underlying28 rfl (fun w7 hX=> Ext.cellv hX HD1.o),?_⟩;refine ⟨ty_call13 100 _ _ _ (gd_none3 rfl) rfl body_dec (kn_new3 3 rfl rfl rfl rfl) (fun w7 hX=> known_call3 rfl (decimal_any n (by have:=HHN.o;omega) w7 (HT1.o.ext hX))),?_⟩;refine ⟨ty_fieldAddr3 _ _ (gd_none3 rfl) rfl rfl (kn_old3 1 rfl rfl) (fun w1=> by kernel_rfl),?_⟩;refine ⟨ty_val3 (gd_none3 rfl) rfl (fun a w7 hX hH hN=> ?_),?_⟩
  ·have h1:=(kn_new3 5 rfl rfl rfl rfl:Kn3 _ _ _ _ (.tmp 43) (.pointer (some ⟨w.heap.size,2,none⟩))) a w7 hH hN;simp only[execOp,h1,Option.map_none,Sem.run_bind,run_slArr w7,Result.andThen_ok];rfl
  refine ⟨ty_val3 (gd_none3 rfl) rfl (fun a w7 hX hH hN=> ?_),?_⟩
  ·have h1:=(kn_new3 6 rfl rfl rfl rfl:Kn3 _ _ _ _ (.tmp 44) (.slice (some ⟨w.heap.size,2,none⟩) 32 32)) a w7 hH hN;simp only[execOp,h1,Sem.run_bind,run_root HRL.o (Ext.blk hX HQ1.o),Result.andThen_ok];rfl
  refine ⟨ty_call13 133 _ _ _ (gd_none3 rfl) rfl body_b64 (kn_new3 7 rfl rfl rfl rfl) (fun w7 hX=> known_call3 rfl (base64_any w7 root (by rw[HRL.o];omega) (by rw[HRL.o]))),?_⟩;refine ⟨ty_run3 (gd_none3 rfl) (fun a w7 hX hH hN=> ?_),?_⟩
  ·have h1:=(kn_new3 1 rfl rfl rfl rfl:Kn3 _ _ _ _ (.tmp 39) (.string (str o))) a w7 hH hN;have h2:=(kn_new3 4 rfl rfl rfl rfl:Kn3 _ _ _ _ (.tmp 42) (.string (str (Lib.decDigits n)))) a w7 hH hN;have h3:=(kn_new3 8 rfl rfl rfl rfl:Kn3 _ _ _ _ (.tmp 46) (.string (str (b64 root)))) a w7 hH hN;obtain ⟨i0,hi0,hz0,hz1,hz2⟩:=info_parts info_strF;refine ⟨_,_,?_,(Upd.refl none' w7).alloc (.cells #[.string (str o),.string (str (Lib.decDigits n)),.string (str (b64 root))] 9),⟨w7.heap.size,rfl,blk_alloc _ _⟩⟩;simp only[execOp,List.map_toArray,List.map_cons,List.map_nil,h1,h2,h3,Sem.run_bind,run_build3 w7 _ _ i0 Tryz.underlying22 hi0 hz0 hz1,Result.andThen_ok];rfl
  refine ⟨ty_fieldAddr3 _ _ (gd_none3 rfl) rfl rfl (kn_old3 1 rfl rfl) (fun w1=> by kernel_rfl),?_⟩;refine ⟨ty_load13 ⟨w.heap.size,34,none⟩ _ (gd_none3 rfl) rfl rfl (kn_new3 10 rfl rfl rfl rfl) Tryz.underlying22 rfl (fun w7 hX=> Ext.cellv hX HD3.o),?_⟩;refine ⟨ty_run3 (gd_none3 rfl) (fun a w7 hX hH hN=> ?_),?_⟩
  ·obtain ⟨g,h1,hg⟩:=(new_prop3 9 hN rfl rfl rfl rfl:P3 _ _ _ (a.eval (.tmp 47)) w7);have h2:=(kn_new3 11 rfl rfl rfl rfl:Kn3 _ _ _ _ (.tmp 49) (.slice none 0 0)) a w7 hH hN;obtain ⟨i0,hi0,hz0,hz1,hz2⟩:=info_parts info_strF;refine ⟨.slice (some ⟨g,0,none⟩) 3 3,w7,?_,Upd.refl _ _,⟨g,rfl,hg⟩⟩;simp only[execOp,resolve,invoke,builtin,Sem.run_bind,Sem.run_pure,Result.andThen_ok,List.map_toArray,List.map_cons,List.map_nil,h1,h2,run_app_nil w7 _ _ _ i0 Tryz.underlying22 hi0 g 3 3 (by omega) ⟨_,_,_,hg⟩]
  refine ⟨ty_run3 (gd_none3 rfl) (fun a w7 hX hH hN=> ?_),trivial⟩
  ·obtain ⟨g,h1,hg⟩:=(new_prop3 12 hN rfl rfl rfl rfl:P3 _ _ _ (a.eval (.tmp 50)) w7);refine ⟨.slice (some ⟨g,0,none⟩) 3 3,w7,?_,Upd.refl _ _,⟨g,rfl,hg⟩⟩;simp only[execOp,h1,Sem.run_pure]
end Go.Proofs.YtnkcfkjeeennmaaGreatDoor
