/- What the rows' cell 'laid' gives: the sentinels, the type's handle. A world for the witnesses. -/
import Derived.Test.YtjnjpgdoncbahaaGreatDoorRows
import Derived.Test.YtjnjpgdoncbahaaGreatDoorCode
import Derived.ProofKit
import Derived.OpenShut
import Derived.Deep.DeepHandedRow
import Derived.Stop.LaidErr
import Derived.LaidHandle
namespace Go.Proofs.YtjnjpgdoncbahaaGreatDoor
open Go.ChangeShapes Go.WideShapes Go.ChangeAt Go.RowKit Go.Lib
variable {W:World}{g:Nat}{n:String}{r:List (String×DataW Unit)}{text:List UInt8}
def sentL:List (String×List UInt8):= [("cartulary/api.ErrNil",[97,110,32,111,98,106,101,99,116,32,116,104,97,116,32,105,115,32,110,111,116,32,116,104,101,114,101]),("cartulary/api.ErrArg",[97,110,32,97,114,103,117,109,101,110,116,32,116,104,97,116,32,109,97,121,32,110,111,116,32,98,101]),("cartulary/api.ErrInput",[97,110,32,105,110,112,117,116,32,116,104,97,116,32,105,115,32,110,111,110,101,32,111,102,32,116,104,111,115,101,32,116,104,97,116,32,109,97,121,32,98,101]),("cartulary/api.ErrLimit",[97,98,111,118,101,32,97,32,108,105,109,105,116]),("cartulary/api.ErrRange",[110,111,32,115,117,99,104,32,108,101,97,102,44,32,115,105,122,101,32,111,114,32,115,116,114,101,116,99,104]),("cartulary/api.ErrGone",[110,111,116,104,105,110,103,32,111,102,32,116,104,97,116,32,110,97,109,101]),("cartulary/api.ErrUnavailable",[105,116,32,99,111,117,108,100,32,110,111,116,32,98,101,32,114,101,97,100]),("cartulary/api.ErrDead",[116,104,101,32,115,116,111,114,101,32,104,97,115,32,99,114,97,115,104,101,100]),("cartulary/api.ErrCorrupt",[119,104,97,116,32,108,105,101,115,32,105,110,32,116,104,101,32,115,116,111,114,101,32,105,115,32,110,111,32,108,111,103]),("cartulary/api.ErrProof",[105,116,32,100,111,101,115,32,110,111,116,32,112,114,111,118,101,32,116,104,97,116]),("cartulary/api.ErrSpent",[110,111,32,107,101,121,32,105,115,32,108,101,102,116]),("cartulary/api.ErrSigned",[110,111,116,32,115,105,103,110,101,100,32,98,121,32,119,104,111,109,32,105,116,32,115,104,111,117,108,100,32,98,101]),("cartulary/api.ErrFork",[116,119,111,32,108,111,103,115,32,111,102,32,111,110,101,32,110,97,109,101]),("cartulary/api.ErrOld",[111,108,100,101,114,32,116,104,97,110,32,119,104,97,116,32,105,115,32,107,110,111,119,110]),("cartulary/api.ErrStopped",[115,116,111,112,112,101,100]),("cartulary/api.ErrScript",[110,111,32,115,99,114,105,112,116])]
def sentD{H:Type}(p:String×List UInt8):String×DataW H:=(p.1,.iface "*errors.errorString" (.ptr (.agg [.lit (.string p.2)])))
def handD:String×DataW Unit:=("errors.errorType",.iface "internal/reflectlite.rtype" (.agg [.ptr (.lit (.string [101,114,114,111,114]))]))
def laidL:List (String×DataW Unit):=handD::sentL.map sentD
theorem laid_plain:(laidL.filter fun x=> x.2.handleName?.isNone)=sentL.map sentD:=by kernel_rfl
theorem laid_hand:(laidL.filter fun x=> x.2.handleName?.isSome)= [handD]:=by kernel_rfl
theorem cells_es:Tryz.prog.cellsOf 476=1:=by kernel_rfl
theorem cells_str:Tryz.prog.cellsOf 9=1:=by kernel_rfl
theorem star_es: "*" ++ "errors.errorString" = "*errors.errorString" :=by decide
theorem row_es(u:TypeId)(h:Tryz.prog.typeName? 3 u=some "*errors.errorString"):u=457:=
 typeName_ptr_named (nm:= "errors.errorString") (by rw[star_es];kernel_rfl) (by kernel_rfl) (by decide) u (by rw[star_es];exact h)
def Sent(W:World)(g:Nat)(text:List UInt8)(a:Addr):Prop:=
 W.cell? ⟨g,0,none⟩=some (.iface 457 (.pointer (some a)))∧(∃s:ByteArray,W.cell? a=some (.string s)∧s.data.toList=text)∧∃c t,W.heap[a.block]? =some (.cells c t (0,0))
theorem sent_gen{P:Program}{nm:String}{ti tp te ts:TypeId}{ms:Array (String×TypeId)}{f:Field}
 (h:laidMet P ((n,.iface nm (.ptr (.agg [.lit (.string text)])))::r) W)
 (hg:P.globalNamed n=some g) (ht:(P.globals[g]?).map (·.type)=some ti) (hi:P.underlying ti=some (.interface ms)) (hrow:∀u,P.typeName? 3 u=some nm→u=tp)
 (hp:P.underlying tp=some (.pointer te)) (he:P.underlying te=some (.struct #[f])) (hft:f.type=ts) (hfo:f.offset=0) (hs:P.underlying ts=some .string) (hc:P.cellsOf te=1) (hcs:P.cellsOf ts=1):
 ∃a:Addr,W.cell? ⟨g,0,none⟩=some (.iface tp (.pointer (some a)))∧(∃s:ByteArray,W.cell? a=some (.string s)∧s.data.toList=text)∧∃c t,W.heap[a.block]? =some (.cells c t (0,0)):=by
 obtain ⟨ps,⟨g0,t0,cs0,f0,p0,q0,hg0,ht0,hv0,hd0,_,e0⟩,_,hrows⟩:=h;obtain rfl:=Option.some.inj (hg.symm.trans hg0);obtain rfl:=Option.some.inj (ht.symm.trans ht0);subst e0;obtain ⟨l0⟩:=cs0;have ok0:∀u v,l0= [.iface u v]→Value.okWide P W .any 0 u v:=fun u v e=> by subst e;exact (hrows g 0 (by simp[MemPlace.row])).2 u v (by simpa using World.var?_cell hg0 hv0 0)
 obtain ⟨a0,s0,rfl,hc0,hs0,hz0,rfl⟩:=errorString_of_trod hi hrow hp he hft hfo hs hc hcs hd0 ok0;exact ⟨a0,by simpa using World.var?_cell hg0 hv0 0,⟨s0,hc0,hs0⟩,(hrows a0.block a0.off (by simp[MemPlace.row])).1⟩
theorem sent_head(h:laidMet Tryz.prog (sentD (n,text)::r) W)
 (hg:Tryz.prog.globalNamed n=some g) (ht:(Tryz.prog.globals[g]?).map (·.type)=some 24):∃a,Sent W g text a:=
 sent_gen h hg ht Tryz.underlying24 row_es Tryz.underlying457 Tryz.underlying476 rfl rfl Tryz.underlying9 cells_es cells_str
theorem sent_all(l:List (String×List UInt8))(h:laidMet Tryz.prog (l.map sentD) W)(p:String×List UInt8)(hp:p∈l)(g:Nat)(hg:Tryz.prog.globalNamed p.1=some g)
 (ht:(Tryz.prog.globals[g]?).map (·.type)=some 24):∃a,Sent W g p.2 a:=by
 induction l with
 | nil=> cases hp
 | cons x l ih=>
  rcases List.mem_cons.1 hp with e | hp
  ·subst e;exact sent_head h hg ht
  ·exact ih (laidMet.tail h) hp
theorem sent_names:((List.range 16).all fun i=> decide (Tryz.prog.globalNamed (sentL.getD i ("",[])).1=some (gno (i+1))) && decide ((Tryz.prog.globals[gno (i+1)]?).map (·.type)=some 24))=true:=by kernel_rfl
theorem sent_mem:((List.range 16).all fun i=> decide ((sentL.getD i ("",[]))∈sentL))=true:=by kernel_rfl
theorem sent_other:((List.range 16).all fun i=> (List.range 16).all fun j=> decide (i=j) || !decide ((sentL.getD i ("",[])).2=(sentL.getD j ("",[])).2))=true:=by kernel_rfl
theorem hand_one:((List.range Tryz.prog.types.size).filter fun t=> Tryz.prog.rowNamed t [101,114,114,111,114])= [24]:=by kernel_rfl
theorem hand_type:(Tryz.prog.cutTypes.find? (·.1== "internal/reflectlite.rtype")).map (·.2)=some 388:=by kernel_rfl
theorem hand_g:Tryz.prog.globalNamed "errors.errorType" =some 16:=by kernel_rfl
theorem hand_h:typeHandle Tryz.prog 24= .pointer (some ⟨25,24,none⟩):=by kernel_rfl
theorem hand_of(h:handlesMet Tryz.prog [handD] W):W.cell? ⟨16,0,none⟩=some (.iface 388 (.agg #[.pointer (some ⟨25,24,none⟩)])):=by obtain ⟨name,u,ty,e1,e2,e3,e4,e5⟩:=h _ (List.mem_singleton.2 rfl);have en:name= [101,114,114,111,114]:=(Option.some.inj e1).symm;subst en;obtain rfl:=Option.some.inj (hand_type.symm.trans e2);have hm:ty∈(List.range Tryz.prog.types.size).filter fun t=> Tryz.prog.rowNamed t [101,114,114,111,114]:=List.mem_filter.2 ⟨List.mem_range.2 e3,e4⟩;rw[hand_one] at hm;obtain rfl:=List.mem_singleton.1 hm;rw[hand_h] at e5;simpa using World.var?_cell hand_g e5 0
theorem genv_of_laid(h:laidMetH Tryz.prog laidL W):∃se,Genv W.heap.size se W:=by
 unfold laidMetH at h;rw[laid_hand] at h;simp only[laid_plain] at h;obtain ⟨h1,h2⟩:=h;have key:∀k,∃a,1≤k→k≤16→Sent W (gno k) (sentL.getD (k - 1) ("",[])).2 a:=fun k=> by
  by_cases hk:1≤k∧k≤16
  ·have hr:k - 1∈List.range 16:=List.mem_range.2 (by omega);have a:=List.all_eq_true.1 sent_names _ hr;simp only[Bool.and_eq_true,decide_eq_true_eq] at a;have b:=List.all_eq_true.1 sent_mem _ hr;simp only[decide_eq_true_eq] at b;rw[show k - 1+1=k by omega] at a;obtain ⟨x,hx⟩:=sent_all sentL h1 _ b _ a.1 a.2;exact ⟨x,fun _ _=> hx⟩
  ·exact ⟨⟨0,0,none⟩,fun a b=> absurd ⟨a,b⟩ hk⟩
 obtain ⟨se,hse⟩:=Classical.axiomOfChoice key;have het:=hand_of h2;refine ⟨se,fun k a b=> (hse k a b).1,fun k a b=> (hse k a b).2.2,fun i j hi hi2 hj hj2 hne e=> ?_,het,fun k a b=> ⟨lt_of_cell (hse k a b).1,?_⟩,lt_of_cell het,Nat.le_refl _⟩
 ·obtain ⟨s,c1,t1⟩:=(hse i hi hi2).2.1;obtain ⟨s2,c2,t2⟩:=(hse j hj hj2).2.1;rw[e,c2] at c1;have es:s2=s:=by simpa using c1
  subst es;have a:=List.all_eq_true.1 (List.all_eq_true.1 sent_other (i - 1) (List.mem_range.2 (by omega))) (j - 1) (List.mem_range.2 (by omega));simp only[Bool.or_eq_true,decide_eq_true_eq,Bool.not_eq_true',decide_eq_false_iff_not] at a;rcases a with a | a
  ·omega
  ·exact a (t1.symm.trans t2)
 ·obtain ⟨c,t,hc⟩:=(hse k a b).2.2;exact lt_of_blk hc
noncomputable def low:Nat:=(World.holding Tryz.prog default ⟨#[],#[],[]⟩).heap.size
noncomputable def laidWorld(os:Os):World:=
 let w0:=World.holding Tryz.prog os ⟨(sentL.map fun p=> Obj.cells #[.string ⟨p.2.toArray⟩] 476).toArray,#[],[]⟩
 {w0 with heap:=(List.range 16).foldl (fun h i=> h.modify (gno (i+1)) fun
  | .cells _ t frozen=> .cells #[.iface 457 (.pointer (some ⟨low+i,0,none⟩))] t frozen
  | o=> o) (w0.heap.modify 16 fun
  | .cells _ t frozen=> .cells #[.iface 388 (.agg #[.pointer (some ⟨25,24,none⟩)])] t frozen
  | o=> o)}
theorem Ext.kept{w w':World}(h:Ext w w')(may:MemPlace→Prop):w.keptBut w' may:=
 World.keptBut_mono (fun _ f=> f.elim) (World.keptBut_none_iff.2 ⟨h.os,h.output,fun i hi=> h.block i hi id⟩)
end Go.Proofs.YtjnjpgdoncbahaaGreatDoor
