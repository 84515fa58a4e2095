/- A region that draws its order: operations that only read, one that makes a variable, and a last one that waits for them all. Nothing of the program. emit.Load, Size, Root by contracts. bits.TrailingZeros64 of a number not zero; of a count's complement it is the number of low ones. From a state within a region that draws its order: operations that keep a law on worlds and that alone may come up until each has, walked once in one order; then the rest. Nothing of the program. Slices of slices, as operations. Nothing of the program. From a state within a region that draws its order: operations that read, and ONE (p) that makes something out of nothing they read, walked once in one order; then the rest. Nothing of the program. -/
import Derived.Test.YtjnjpgdoncbahaaGreatDoorShaD
import Derived.Test.YtjnjpgdoncbahaaGreatDoorTileH
import Derived.Test.YtjnjpgdoncbahaaGreatDoorTree
import Derived.Shelf.Spec.TrailingZeros
namespace Go.Proofs.YtjnjpgdoncbahaaGreatDoor
open Go.RowKit Go.Lib
set_option maxRecDepth 20000
set_option maxHeartbeats 8000000
variable {d:Option Tmp}{ix x:Operand}{t:TypeId}
section
variable {P:Program} {ops:Array Oper} {md:Region.Mode} {W0 W1:World}
def isAl(o:Oper):Bool:=match o.op with | .alloc _=> true | _=> false
def YF(P:Program)(ops:Array Oper)(W0 W1:World)(o:Oper)(v:Value)(a:Act):Prop:=
 (Region.wanted o (yielded ops a.tmps)=true∧(execOp a.eval o).run P W0= .ok (.value v) (if isAl o then W1 else W0)∧(isAl o=false→(execOp a.eval o).run P W1= .ok (.value v) W1))∨(Region.wanted o (yielded ops a.tmps)=false∧v=undef∧isAl o=false)
def wpF(P:Program)(ops:Array Oper)(W0 W1:World)(Q:Act→Prop):List Oper→Act→Prop
 | [],a=> Q a
 | o::rest,a=> ∃v,YF P ops W0 W1 o v a∧wpF P ops W0 W1 Q rest (a.put o.dst v)
def anyF(P:Program)(md:Region.Mode)(ops:Array Oper)(W0 W1:World)(Q:Act→Prop):Nat→Array Bool→Act→Prop
 | 0,listed,a=> Region.ready md ops listed= []∧Q a
 | n+1,listed,a=> (Region.ready md ops listed= []→Q a)∧
  ∀i∈Region.ready md ops listed,∃o v,ops[i]? =some o∧YF P ops W0 W1 o v a∧anyF P md ops W0 W1 Q n (listed.setIfInBounds i true) (a.put o.dst v)
theorem YF.of_put{o:Oper}{v:Value}{a:Act}{u:Value}(hs:∀cs b,o.op≠ .select cs b)(h:∀t,d=some t→t∉o.looksAt ops):YF P ops W0 W1 o v (a.put d u)↔YF P ops W0 W1 o v a:=by unfold YF;rw[execOp_put o hs a d u h,wanted_put o a d u h]
theorem YF.wp{o:Oper}{i:Nat}{v:Value}{a:Act}{b:Bool}(hi:ops[i]? =some o)(hy:YF P ops W0 W1 o v a)(hb:isAl o=true→b=false){K:Act→World→Prop}{Q:Exit→Act→World→Prop}(h:K (a.put o.dst v) (if b || isAl o then W1 else W0)):wpOp P ops Q i K a (if b then W1 else W0):=by
 unfold wpOp;simp only[hi];rcases hy with ⟨h1,h2,h3⟩ | ⟨h1,rfl,h3⟩
 ·rw[if_pos h1];left;unfold Oper.wp;cases hal:isAl o with
  | true=>
   rw[hb hal] at h⊢;rw[hal] at h h2;simp only[Bool.false_eq_true,if_false,Bool.or_true,if_true] at h h2⊢;rw[h2];exact h
  | false=>
   rw[hal] at h h2;cases b
   ·simp only[Bool.false_eq_true,if_false,Bool.or_self] at h h2⊢;rw[h2];exact h
   ·simp only[Bool.or_false,if_true] at h⊢;rw[h3 hal];exact h
 ·rw[h1];rw[h3,Bool.or_false] at h;exact h
theorem anyF_first{Q:Act→Prop}{i:Nat}{oi:Oper}{v:Value}(hi:ops[i]? =some oi)(hsel:∀(j:Nat) (o:Oper) cs b,ops[j]? =some o→o.op≠ .select cs b):
 ∀(n:Nat) (listed:Array Bool) (a:Act),
  (∀j oj,ops[j]? =some oj→j≠i→listed.getD j true=false→(∀e∈oj.after,Region.binds md e=true→e.on≠i)→oi.apart ops oj=true)→
  i∈Region.ready md ops listed→YF P ops W0 W1 oi v a→anyF P md ops W0 W1 Q n (listed.setIfInBounds i true) (a.put oi.dst v)→anyF P md ops W0 W1 Q (n+1) listed a:=by
 intro n;induction n with
 | zero=>
  intro listed a _ hr hy H;refine ⟨fun h=> (by rw[h] at hr;cases hr),fun j hj=> ?_⟩;by_cases hji:j=i
  ·subst hji;exact ⟨oi,v,hi,hy,H⟩
  ·have:=ready_mono hj hji;rw[H.1] at this;cases this
 | succ n ih=>
  intro listed a hfree hr hy H;refine ⟨fun h=> (by rw[h] at hr;cases hr),fun j hj=> ?_⟩;by_cases hji:j=i
  ·subst hji;exact ⟨oi,v,hi,hy,H⟩
  ·obtain ⟨oj,u,hoj,hyj,hkj⟩:=H.2 j (ready_mono hj hji);obtain ⟨hjun,oj',hoj',hall⟩:=mem_ready.1 hj;obtain rfl:oj'=oj:=Option.some.inj (hoj'.symm.trans hoj);have hnot:∀e∈oj'.after,Region.binds md e=true→e.on≠i:=fun e he hb heq=> by
    have h1:=hall e he hb;have h0:=(mem_ready.1 hr).1;rw[heq] at h1;rcases Nat.lt_or_ge i listed.size with h' | h'
    ·simp[h'] at h0 h1;rw[h0] at h1;cases h1
    ·simp[Array.getElem?_eq_none h'] at h1
   obtain ⟨a1,a2,a3⟩:=Oper.apart_spec (hfree j oj' hoj hji hjun hnot);have hfree':∀k ok,ops[k]? =some ok→k≠i→(listed.setIfInBounds j true).getD k true=false→
    (∀e∈ok.after,Region.binds md e=true→e.on≠i)→oi.apart ops ok=true:=fun k ok hk hki hun hno=> by
    refine hfree k ok hk hki ?_ hno;by_cases hjk:j=k
    ·subst hjk;exact hjun
    ·rw[getD_set_ne true hjk] at hun;exact hun
   refine ⟨oj',u,hoj,(YF.of_put (hsel j oj' · · hoj) a1).1 hyj,ih (listed.setIfInBounds j true) (a.put oj'.dst u) hfree' (ready_mono hr (Ne.symm hji)) ((YF.of_put (hsel i oi · · hi) a3).2 hy) ?_⟩;rw[Array.setIfInBounds_comm _ _ hji,Act.put_comm a u v (fun d hd e=> a2 d e hd)];exact hkj
theorem anyF_lex{Q:Act→Prop}(hs:Region.noSelect ops=true):∀(l:List Oper) (k:Nat) (listed:Array Bool) (a:Act),(∀j,l[j]? =ops[k+j]?)→
 Region.lexFrom md ops l.length k listed=true→wpF P ops W0 W1 Q l a→anyF P md ops W0 W1 Q l.length listed a
 | [],_,_,_,_,hB,h=> ⟨by simpa[Region.lexFrom] using hB,h⟩
 | o::l,k,listed,a,hl,hB,h=> by
  have h0:ops[k]? =some o:=by simpa using (hl 0).symm
  simp only[List.length_cons,Region.lexFrom,Bool.and_eq_true] at hB;obtain ⟨⟨hr,hf⟩,hB'⟩:=hB;obtain ⟨v,hy,hK⟩:=h;exact anyF_first h0 (Region.noSelect_spec hs) l.length listed a (Region.free_spec h0 hf) (by simpa using hr) hy
   (anyF_lex hs l (k+1) _ _ (fun j=> by have:=hl (j+1);simpa[Nat.add_assoc,Nat.add_comm 1 j] using this) hB' hK)
end
section
variable {P:Program}
theorem any_of_F{l:List Oper}{n p:Nat}{W0 W1:World}{Qh:Act→Prop}{Q:Exit→Act→World→Prop}(hln:l.length=n+1)(hb:backB (l.take n)=true)(hg:guardB (l.take n)=true)(ht:tailB l n=true)(hpn:p < n)(hp:∀i o,l[i]? =some o→i < n→(isAl o=true↔i=p))
 (hQ:∀listed a,Qh a→listed.size=l.length→(∀i,i < n→listed.getD i false=true)→listed.getD n false=false→wpAny P .any l.toArray Q 1 listed a W1):
 ∀(c:Nat) (listed:Array Bool) (a:Act),listed.size=l.length→listed.getD n false=false→(∀i o,l[i]? =some o→listed.getD i false=true→∀j∈afterOn o,listed.getD j false=true)→
  (List.range n).countP (fun i=> !listed.getD i true)=c→anyF P .any (l.take n).toArray W0 W1 Qh c ((listed.toList.take n).toArray) a→wpAny P .any l.toArray Q (c+1) listed a (if listed.getD p false then W1 else W0):=by
 have htl:(l.take n).length=n:=by rw[List.length_take];omega
 have hts:∀listed:Array Bool,listed.size=l.length→((listed.toList.take n).toArray).size=(l.take n).length:=fun listed h=> by rw[htl];simp;omega
 intro c;induction c with
 | zero=>
  intro listed a hs hlo hdc hc h;rw[Nat.zero_add];have hall:∀i,i < n→listed.getD i false=true:=fun i hi=> by have:=all_listed (hts listed hs) hb h.1 i (by omega);rwa [take_getD _ _ _ _ hi] at this
  rw[hall p hpn,if_pos rfl];exact hQ listed a h.2 hs hall hlo
 | succ c ih=>
  intro listed a hs hlo hdc hc h;have hex:∃i,i < n∧listed.getD i true=false:=by
   have:0 < (List.range n).countP (fun i=> !listed.getD i true):=by omega
   obtain ⟨i,hi,h1⟩:=List.countP_pos_iff.1 this;exact ⟨i,List.mem_range.1 hi,by simpa using h1⟩
  have hlow:=tail_low (by omega) ht hs hdc hex;have hready:∀i,i∈Region.ready .any l.toArray listed→i∈Region.ready .any (l.take n).toArray ((listed.toList.take n).toArray):=fun i hi=> by
   have hin:=hlow i hi;obtain ⟨h1,o,h2,h3⟩:=mem_ready.1 hi;refine mem_ready.2 ⟨by rw[take_getD _ _ _ _ hin];exact h1,o,by simpa[List.getElem?_take,hin] using h2,fun e he hbi=> ?_⟩;have hoi:(l.take n)[i]? =some o:=by rw[List.getElem?_take,if_pos hin];simpa using h2
   have hb1:=List.all_eq_true.1 hb i (List.mem_range.2 (by omega));simp only[hoi] at hb1;have hb2:=List.all_eq_true.1 hb1 e.on (List.mem_map.2 ⟨e,List.mem_filter.2 ⟨by simpa using he,hbi⟩,rfl⟩);simp only[decide_eq_true_eq] at hb2;rw[take_getD _ _ _ _ (by omega)];exact h3 e he hbi
  rw[show c+1+1=(c+1)+1 by omega];refine ⟨fun hr=> ?_,fun i hi=> ?_⟩
  ·exfalso;have hr2:Region.ready .any (l.take n).toArray ((listed.toList.take n).toArray)= []:=by
    apply Classical.byContradiction;intro hne;obtain ⟨i,t,hit⟩:=List.exists_cons_of_ne_nil hne;have hi:i∈Region.ready .any (l.take n).toArray ((listed.toList.take n).toArray):=by rw[hit];simp
    obtain ⟨h1,o,h2,h3⟩:=mem_ready.1 hi;have hin:i < n:=by have:=(List.getElem?_eq_some_iff.1 (show (l.take n)[i]? =some o by simpa using h2)).1;omega
    have hoi:(l.take n)[i]? =some o:=by simpa using h2
    have:i∈Region.ready .any l.toArray listed:=mem_ready.2 ⟨by rw[take_getD _ _ _ _ hin] at h1;exact h1,o,by rw[List.getElem?_take,if_pos hin] at hoi;simpa using hoi,fun e he hbi=> by have hb1:=List.all_eq_true.1 hb i (List.mem_range.2 (by omega));simp only[hoi] at hb1;have hb2:=List.all_eq_true.1 hb1 e.on (List.mem_map.2 ⟨e,List.mem_filter.2 ⟨by simpa using he,hbi⟩,rfl⟩);simp only[decide_eq_true_eq] at hb2;have:=h3 e he hbi;rwa [take_getD _ _ _ _ (by omega)] at this⟩
    rw[hr] at this;cases this
   obtain ⟨j,hj,hjf⟩:=hex;have:=all_listed (hts listed hs) hb hr2 j (by omega);rw[take_getD _ _ _ _ hj] at this;have hs2:j < listed.size:=by omega
   simp[hs2] at this hjf;rw[hjf] at this;cases this
  ·have hin:=hlow i hi;have hq:=h.2 i (hready i hi);obtain ⟨h1,o,h2,h3⟩:=mem_ready.1 hi;have hil:l[i]? =some o:=by simpa using h2
   have hit:(l.take n)[i]? =some o:=by rw[List.getElem?_take,if_pos hin];exact hil
   have hlt:i < l.length:=by omega
   have hs1:i < listed.size:=by omega
   have hnext:∀a',anyF P .any (l.take n).toArray W0 W1 Qh c (((listed.toList.take n).toArray).setIfInBounds i true) a'→wpAny P .any l.toArray Q (c+1) (listed.setIfInBounds i true) a' (if (listed.setIfInBounds i true).getD p false then W1 else W0):=fun a' h'=> by
    refine ih _ _ (by simpa using hs) (by rw[getD_set_ne false (by omega)];exact hlo) (fun k ok hk hl j hj=> ?_) ?_ (by rw[take_set];exact h')
    ·rw[getD_set _ _ _ hs1] at hl⊢;split
     ·rfl
     ·split at hl
      ·rename_i e;subst e;rw[hil] at hk;cases hk
       obtain ⟨e,he,rfl⟩:=List.mem_map.1 hj;obtain ⟨he1,he2⟩:=List.mem_filter.1 he;exact h3 e (by simpa using he1) he2
      ·exact hdc k ok hk hl j hj
    ·have hsep:∀(L:List Nat),L.Nodup→i∈L→L.countP (fun j=> !listed.getD j true)=L.countP (fun j=> !(listed.setIfInBounds i true).getD j true)+1:=by
      intro L hnd hmem;induction L with
      | nil=> cases hmem
      | cons x L ihL=>
       obtain ⟨hx,hnd2⟩:=List.nodup_cons.1 hnd;rw[List.countP_cons,List.countP_cons];by_cases hxi:x=i
       ·subst hxi;have hh:listed.getD x true=false:=by simpa using h1
        have h2':(listed.setIfInBounds x true).getD x true=true:=by simp[hs1]
        have hrest:L.countP (fun j=> !listed.getD j true)=L.countP (fun j=> !(listed.setIfInBounds x true).getD j true):=by apply List.countP_congr;intro j hj;rw[getD_set_ne true (show x≠j from fun e=> hx (e▸hj))]
        rw[hrest,hh,h2'];simp
       ·have hmem2:i∈L:=by rcases List.mem_cons.1 hmem with e | e;exact absurd e.symm hxi;exact e
        rw[ihL hnd2 hmem2,getD_set_ne true (show i≠x from fun e=> hxi e.symm)];omega
     have:=hsep (List.range n) List.nodup_range (List.mem_range.2 hin);omega
   obtain ⟨o',v,ho',hy,hk⟩:=hq;have ho2:(l.take n)[i]? =some o':=by simpa using ho'
   obtain rfl:o'=o:=Option.some.inj (ho2.symm.trans hit);have hy2:YF P l.toArray W0 W1 o' v a:=by unfold YF at hy⊢;rw[wanted_take (by omega) hg (List.mem_of_getElem? hit)] at hy;exact hy
   have hpi:=hp i o' hil hin;have hun:listed.getD i false=false:=by simp[hs1] at h1⊢;exact h1
   refine hy2.wp h2 (fun e=> by rw[←hpi.1 e];exact hun) ?_;have hnk:=hnext _ hk;have hflag:(listed.setIfInBounds i true).getD p false=(listed.getD p false || isAl o'):=by
    by_cases e:i=p
    ·rw[hpi.2 e,Bool.or_true,←e,getD_set _ _ _ hs1,if_pos rfl]
    ·have hf:isAl o'=false:=by cases hal:isAl o' with
      | true=> exact absurd (hpi.1 hal) e
      | false=> rfl
     rw[hf,Bool.or_false,getD_set_ne false e]
   rw[hflag] at hnk;exact hnk
theorem region_two{id:Nat}{Q:Exit→Act→World→Prop}{a:Act}{w:World}{l:List Oper}(n p:Nat)(W1:World)(hmix:P.follows .mixedOrders=true)(hln:(l.length==n+1)=true)(hB:Region.lexB .any (l.take n).toArray=true)
 (hb:backB l=true) (hg:guardB (l.take n)=true) (ht:tailB l n=true) (hpB:((List.range n).all fun i=> match l[i]? with | some o=> isAl o==decide (i=p) | none=> true)=true) (hpn:p < n)
 (h:wpF P (l.take n).toArray w.drew W1 (fun a'=> wpList P l.toArray Q (l.drop n) a' W1) (l.take n) a):(Code.region id l.toArray true).wp P Q a w:=by
 have hln:l.length=n+1:=by simpa using hln
 have htl:(l.take n).length=n:=by rw[List.length_take];omega
 have hb':backB (l.take n)=true:=by
  refine List.all_eq_true.2 (fun i hi=> ?_);have hin:i < n:=by have:=List.mem_range.1 hi;omega
  have:=List.all_eq_true.1 hb i (List.mem_range.2 (by omega));rw[List.getElem?_take,if_pos hin];exact this
 simp only[Region.lexB,Bool.and_eq_true] at hB;have hq:=anyF_lex (md:= .any) hB.1 (l.take n) 0 (Array.replicate n false) a (by simp) (by have:=hB.2;simpa[htl,hln] using this) h;refine wp_region_any hmix ?_;have rep:∀i,(Array.replicate l.toArray.size false).getD i false=false:=fun i=> by rw[Array.getD_eq_getD_getElem?,Array.getElem?_replicate];split <;> rfl
 have hpp:∀i o,l[i]? =some o→i < n→(isAl o=true↔i=p):=fun i o ho hi=> by have:=List.all_eq_true.1 hpB i (List.mem_range.2 hi);simp only[ho,beq_iff_eq] at this;rw[this];simp
 have main:=any_of_F (P:=P) (W0:=w.drew) (W1:=W1) (p:=p) (Qh:=fun a'=> wpList P l.toArray Q (l.drop n) a' W1) (Q:=Q) hln hb' hg ht hpn hpp ?_ n (Array.replicate l.toArray.size false) a (by simp) (rep n) (fun i o _ hl=> by rw[rep] at hl;cases hl) ?_ ?_
 ·rw[show n+1=l.toArray.size by simp;omega,rep,if_neg (by simp)] at main;exact main
 ·intro listed a' hk hs hall hlo;have hon:l[n]? =some (l[n]'(by omega)):=List.getElem?_eq_getElem (by omega);have hdrop:l.drop n= [l[n]'(by omega)]:=by rw[List.drop_eq_getElem_cons (by omega),List.drop_of_length_le (by omega)]
  have hk2:=hk;rw[hdrop] at hk2;clear hk;generalize l[n]'(by omega)=o at hon hk2 hdrop;have hns:n < listed.size:=by omega
  have hmem:n∈Region.ready .any l.toArray listed:=mem_ready.2 ⟨by simp[hns] at hlo⊢;exact hlo,o,by simpa using hon,fun e he hbi=> by have hb1:=List.all_eq_true.1 hb n (List.mem_range.2 (by omega));simp only[hon] at hb1;have hb2:=List.all_eq_true.1 hb1 e.on (List.mem_map.2 ⟨e,List.mem_filter.2 ⟨by simpa using he,hbi⟩,rfl⟩);simp only[decide_eq_true_eq] at hb2;exact hall e.on hb2⟩
  have honly:∀i,i∈Region.ready .any l.toArray listed→i=n:=fun i hi=> by
   obtain ⟨h1,o',h2,h3⟩:=mem_ready.1 hi;have hlt:i < l.length:=(List.getElem?_eq_some_iff.1 (show l[i]? =some o' by simpa using h2)).1;rcases Nat.lt_or_ge i n with h4 | h4
   ·have:=hall i h4;have hs1:i < listed.size:=by omega
    simp[hs1] at this h1;rw[h1] at this;cases this
   ·omega
  have hend:Region.ready .any l.toArray (listed.setIfInBounds n true)= []:=by
   apply Classical.byContradiction;intro hne;obtain ⟨i,t,hit⟩:=List.exists_cons_of_ne_nil hne;have hi:i∈Region.ready .any l.toArray (listed.setIfInBounds n true):=by rw[hit];simp
   obtain ⟨h1,o',h2,_⟩:=mem_ready.1 hi;have hlt:i < l.length:=(List.getElem?_eq_some_iff.1 (show l[i]? =some o' by simpa using h2)).1;by_cases hni:n=i
   ·subst hni;simp[hns] at h1
   ·rw[getD_set_ne true hni] at h1;have:=hall i (by omega);have hs1:i < listed.size:=by omega
    simp[hs1] at this h1;rw[h1] at this;cases this
  refine ⟨fun hr=> (by rw[hr] at hmem;cases hmem),fun i hi=> ?_⟩;obtain rfl:=honly i hi;unfold wpList at hk2;unfold wpOp;simp only[List.getElem?_toArray,hon];split
  ·rename_i hw;rw[if_pos hw] at hk2;exact hk2.imp (Oper.wp_mono (fun a w h=> ⟨hend,h⟩)) (fun h=> h)
  ·rename_i hw;rw[if_neg hw] at hk2;exact ⟨hend,hk2⟩
 ·have:∀i∈List.range n,(!(Array.replicate l.toArray.size false).getD i true)=true:=fun i hi=> by have hin:=List.mem_range.1 hi;rw[Array.getD_eq_getD_getElem?,Array.getElem?_replicate,if_pos (by simp;omega)];rfl
  rw[List.countP_eq_length.2 this,List.length_range]
 ·have e:(((Array.replicate l.toArray.size false).toList.take n).toArray)=Array.replicate n false:=by simp[List.take_replicate,hln]
  rw[e,←htl];rw[htl];rw[htl] at hq;exact hq
variable {ops:Array Oper} {W0 W1:World} {Q:Act→Prop} {o:Oper} {rest:List Oper} {a:Act}
theorem f_read{v:Value}(hw:Region.wanted o (yielded ops a.tmps)=true)(hal:isAl o=false)(h0:(execOp a.eval o).run P W0= .ok (.value v) W0)(h1:(execOp a.eval o).run P W1= .ok (.value v) W1)(hk:wpF P ops W0 W1 Q rest (a.put o.dst v)):wpF P ops W0 W1 Q (o::rest) a:=
 ⟨v,.inl ⟨hw,by rw[hal];exact h0,fun _=> h1⟩,hk⟩
theorem f_alloc{v:Value}(hw:Region.wanted o (yielded ops a.tmps)=true)(hal:isAl o=true)(h0:(execOp a.eval o).run P W0= .ok (.value v) W1)(hk:wpF P ops W0 W1 Q rest (a.put o.dst v)):wpF P ops W0 W1 Q (o::rest) a:=
 ⟨v,.inl ⟨hw,by rw[hal];exact h0,fun e=> by rw[hal] at e;cases e⟩,hk⟩
theorem f_nil(h:Q a):wpF P ops W0 W1 Q [] a:=h
theorem f_norm{l:List Oper}{a':Act}(h:a=a')(hk:wpF P ops W0 W1 Q l a'):wpF P ops W0 W1 Q l a:=h▸hk
end
section
variable {P:Program} {o:Oper} {a:Act}
theorem run_ix(w:World)(ho:o.op= .indexAddr t x ix)(g off len cap k sz:Nat)(e:TypeId)(hx:a.eval x= .slice (some ⟨g,off,none⟩) len cap)(hi:a.eval ix= .int .i64 k)(hk:k < len)
 (hu:P.underlying t=some (.slice e)) (hs:(P.info? e).map (·.size)=some sz):(execOp a.eval o).run P w= .ok (.value (.pointer (some ⟨g,off+k*sz,none⟩))) w:=by
 have hadd:(⟨g,off,none⟩:Addr).add (k*sz)=⟨g,off+k*sz,none⟩:=by unfold Addr.add;split <;> simp_all
 cases hq:P.info? e with
 | none=> simp[hq] at hs
 | some i=>
  have his:i.size=sz:=by simpa[hq] using hs
  have hk2:(0:Int)≤(k:Int)∧(k:Int) < len:=by omega
  simp[execOp,ho,hx,hi,Instr.indexAt,run_underlying hu,asIntOf,sizeOf,typeInfo,hq,his,hk2,hk,hadd]
theorem run_ld(w:World)(ty:TypeId)(x:Operand)(ho:o.op= .load ty x)
 (g off:Nat) (hx:a.eval x= .pointer (some ⟨g,off,none⟩)) (vs:List Value) {d:TypeDesc} (hu:P.underlying ty=some d) (hd:aggD d=true) (hi:(P.info? ty).map (·.size)=some vs.length)
 (hc:∀j v,vs[j]? =some v→w.cell? ⟨g,off+j,none⟩=some v):(execOp a.eval o).run P w= .ok (.value (.agg vs.toArray)) w:=by
 simp only[execOp,ho,hx,Instr.loadAt,Instr.sureAddr,Sem.run_bind,Sem.run_pure,Result.andThen_ok,run_loadVar_at g off ty vs hu hd hi hc]
end
structure BldAt (B:Nat) (w:World) (b:Nat) (lv:Value) (n:Nat) (l:List HB):Prop where
 blk:w.heap[b]? =some (.cells #[.bool true,.int .u64 (n:Int),lv] 216 (0,0))
 row:w.ownsRow B 33 32 lv l.length (hcells l)
 lo:B≤b
def fpE(b:Nat)(lv:Value)(g:Nat):Prop:=g=b∨lv.ownBlock=some g
theorem BldAt.upd{B:Nat}{w w':World}{b:Nat}{lv:Value}{n:Nat}{l:List HB}{S:Nat→Prop}(h:BldAt B w b lv n l)(u:Upd S w w')(hS:∀g,fpE b lv g→¬S g):BldAt B w' b lv n l:=
 ⟨u.blk h.blk (hS _ (.inl rfl)),ownsRow_upd h.row u (fun g hg=> hS g (.inr hg)),h.lo⟩
theorem BldAt.ext{B:Nat}{w w':World}{b:Nat}{lv:Value}{n:Nat}{l:List HB}(h:BldAt B w b lv n l)(u:Ext w w'):BldAt B w' b lv n l:=h.upd u (fun _ _=> id)
theorem BldAt.low{B:Nat}{w:World}{b:Nat}{lv:Value}{n:Nat}{l:List HB}(h:BldAt B w b lv n l):∀g,fpE b lv g→B≤g:=fun g hg=> by
 rcases hg with rfl | e
 ·exact h.lo
 ·exact (h.row.lt g e).1
theorem load_any(w:World)(n:Nat)(hn:n < 16777216)(A:Option Addr)(hs:List HB)(cap:Nat)(h32:H32 hs)(hA:CellsAt w A (hcells hs))(hp:hs.length=pop3 n)(hl:hs.length≤64):
 Calls Tryz.prog 64 #[.int .u64 n,.slice A hs.length cap] w fun e w'=> ∃b lv,e= .returned (.tuple #[.pointer (some ⟨b,0,none⟩),.nilIface])∧BldAt w.heap.size w' b lv n hs∧Ext w w':=by
 obtain ⟨i0,hi0,hz0,hz1,hz2⟩:=info_parts info_hash;have C:=ones64_any n hn w;rw[←hp] at C;have hn1:¬(9223372036854775808:Int) < n:=by omega
 have HA:=ZA hA;have HLN:=ZA (show (hcells hs).length=hs.length*32 from hcells_len h32);have HO1:=ZA (hcells_ones hs);have HM:=ZA (show 0+hs.length≤maxLen∧(0+hs.length)*32≤140737488355328 by unfold maxLen;omega);clear hA h32 hp;go_enter Tryz.func64,Tryz.ntmps64;go_wp2_with fail;refine C.mono ?_;rintro e w1 ⟨rfl,rfl⟩;go_wp2_with (at_builtin;refine wpList_appX rfl _ _ 113 rfl w.heap.size 33 i0 _ 32 32 Tryz.underlying113 hi0 hz0 hz1 hz2 rfl (by decide) (.slice none 0 0) 0 [] rfl (World.ownsRow_nil _ _ _ _) A hs.length cap (hcells hs) rfl HLN.o HA.o HO1.o HM.o.1 HM.o.2 (Nat.le_refl _) ?_;intro A' c' w2 hown hgrow hat;simp only[Nat.zero_add,List.nil_append] at hown;have HOWN:=ZA hown;have HU2:=ZA (show Ext w w2 from (Upd.refl none' _).grown hgrow (fun k hk=> by cases hk));clear hown hgrow hat);go_ret2;have X:=(Upd.refl none' w2).alloc (.cells #[.bool true,.int .u64 (n:Int),.slice A' hs.length c'] 216);exact ⟨_,_,rfl,⟨blk_alloc w2 _,ownsRow_upd HOWN.o X (fun _ _=> id),HU2.o.size⟩,HU2.o.trans X⟩
theorem size_any{B:Nat}{w:World}{b:Nat}{lv:Value}{n:Nat}{l:List HB}(D:BldAt B w b lv n l):
 Calls Tryz.prog 71 #[.pointer (some ⟨b,0,none⟩)] w fun e w'=> e= .returned (.int .u64 n)∧w=w':=by
 have c1:w.cell? ⟨b,1,none⟩=some (.int .u64 (n:Int)):=cell_of_blk D.blk 1;clear D;go_enter Tryz.func71,Tryz.ntmps71;go_wp2_with fail;go_ret;exact ⟨rfl,rfl⟩
def foldP(l:List HB):HB:=if l= [] then emptyH else cr nodeH (l.take (l.length - 1)) (l.length - 1) (l.getD (l.length - 1) [])
def RtRel(q:Nat)(l:List HB)(c:Nat)(x0:HB)(w:World)(iv:Value)(wr:World):Prop:=
 ∃(k:Nat),k≤c∧iv= .int .i64 ((c:Int) - 1 - k)∧∃x,x=cr nodeH (l.take c) k x0∧x.length=32∧wr.heap[q]? =some (.cells (x.map u8v).toArray 33 (0,0))∧Upd (one q) w wr
theorem root_any{B:Nat}{w:World}{b:Nat}{lv:Value}{n:Nat}{l:List HB}(D:BldAt B w b lv n l)(h32:H32 l)(hl:l.length≤64)(hG:21 < w.heap.size)(htab:ShaTab w):
 Calls Tryz.prog 72 #[.pointer (some ⟨b,0,none⟩)] w fun e w'=> e= .returned (hashV (foldP l))∧Ext w w':=by
 have X0:=(Upd.refl none' w).alloc (.cells zero32 33);have HQ:=ZA (blk_alloc w (.cells zero32 33));have HX:=ZA X0;have HT:=ZA (htab.ext X0);have HG:=ZA hG;have HSZ0:=ZA (show (w.alloc (.cells zero32 33)).heap.size=w.heap.size+1 from by simp);obtain ⟨LA,lc,rfl⟩:=own_sl D.row;have HD:=ZA (D.ext X0);have HRLT:=ZA (fun g (e:(Value.slice LA l.length lc).ownBlock=some g)=> (D.row.lt g e).2);have c0:(w.alloc (.cells zero32 33)).cell? ⟨b,0,none⟩=some (.bool true):=cell_of_blk HD.o.blk 0;have c2:(w.alloc (.cells zero32 33)).cell? ⟨b,2,none⟩=some (.slice LA l.length lc):=cell_of_blk HD.o.blk 2;have hblt:=lt_of_blk D.blk;clear X0 htab hG D;by_cases h0:l= []
 ·have HF:=ZA (show foldP l=emptyH by unfold foldP;rw[if_pos h0]);have hl0:l.length=0:=by rw[h0];rfl
  have C:=empty_h (w.alloc (.cells zero32 33)) (by have:=HG.o;have:=HSZ0.o;omega) HT.o;have HSL:=ZA (hash_size32 emptyH emptyH_len);have H1:=ZA (u8_ones emptyH);have HLL:=ZA (show zero32.toList.length=(emptyH.map u8v).length by rw[List.length_map,emptyH_len];rfl);clear h0;go_enter Tryz.func72,Tryz.ntmps72;go_wp2_with fail;refine C.mono ?_;rintro e w1 ⟨rfl,hx1⟩;have HQ1:=ZA (Ext.blk hx1 HQ.o);have HX1:=ZA (HX.o.trans hx1);clear hx1 C;go_wp2_with (refine store_whole rfl 33 _ _ rfl w.heap.size rfl (emptyH.map u8v) rfl HSL.o _ _ HQ1.o HLL.o H1.o ?_);have hsz:(Tryz.prog.info? 33).map (·.size)=some (emptyH.map u8v).toArray.size:=by rw[HSL.o];simp
  exact bodyPost_ret (v:= .agg (emptyH.map u8v).toArray) (results_cell_row rfl _ _ w.heap.size 33 _ (0,0) _ rfl (blk_setRow HQ1.o _) Tryz.underlying33 rfl hsz) rfl ⟨by rw[HF.o],Upd.setRow HX1.o (.inl (Nat.le_refl _)) _⟩
 ·obtain ⟨c,hc⟩:∃c,l.length=c+1:=⟨l.length - 1,by have:l.length≠0:=fun e=> h0 (List.length_eq_zero_iff.1 e);omega⟩;have hne0:¬((l.length:Int)=0):=by omega
  have hs1:(l.length:Int) - 1=c:=by omega
  have hs2:(l.length:Int) - 2=c - 1:=by omega
  have hcl:c < l.length:=by omega
  have hci:(c:Int) < l.length:=by omega
  have hci0:(0:Int)≤c:=by omega
  have hcw:IntKind.i64.wrap (c:Int)=c:=IntWalk.i64_in _ (by omega);obtain ⟨g,cr,hLA,hgb⟩:∃g cr,Value.slice LA l.length lc= .slice (some ⟨g,0,none⟩) l.length cr∧B≤g:=by
   rcases own_form HD.o.row with ⟨_,h⟩ | h
   ·omega
   ·exact h
  cases hLA
  have HL:=ZA (hash_at (CellsAt.row32 ((HD.o.ext ((Upd.refl none' _).drew)).row)) h32 c hcl);have HL2:=ZA (hash_at (CellsAt.row32 ((HD.o.ext (((Upd.refl none' _).drew).alloc (.cells zero32 33))).row)) h32 c hcl);have HLL:=ZA (h32.getD c hcl);have HSX:=ZA (hash_size32 _ HLL.o);have HO1:=ZA (u8_ones (l.getD c []));have HE:=ZA hc;have HFP:=ZA (show foldP l=cr nodeH (l.take c) c (l.getD c []) by unfold foldP;rw[if_neg h0,hc];simp);have HGL:=ZA (show g < w.heap.size from HRLT.o g rfl);have HLL32:=ZA (show zero32.size=((l.getD c []).map u8v).length by rw[List.length_map,HLL.o];rfl);clear hc h0;generalize hx0:l.getD c []=x0 at*;go_enter Tryz.func72,Tryz.ntmps72;go_wp2_with fail;refine region_two 13 12 (((w.alloc (.cells zero32 33)).drew).alloc (.cells zero32 33)) (by kernel_rfl) (by kernel_rfl) (by kernel_rfl) (by kernel_rfl) (by kernel_rfl) (by kernel_rfl) (by kernel_rfl) (by decide) ?_;simp only[List.take_succ_cons,List.take_zero,List.drop_succ_cons,List.drop_zero];refine f_read (v:= .pointer (some ⟨b,0,none⟩)) rfl rfl (by go_simp) (by go_simp) ?_;refine f_norm (by go_simp;exact rfl) ?_;refine f_read (v:= .pointer (some ⟨b,0,none⟩)) rfl rfl (by go_simp) (by go_simp) ?_;refine f_norm (by go_simp;exact rfl) ?_;refine f_read (v:= .pointer (some ⟨b,2,none⟩)) rfl rfl (by go_simp) (by go_simp) ?_;refine f_norm (by go_simp;exact rfl) ?_;refine f_read (v:= .slice (some ⟨g,0,none⟩) l.length lc) rfl rfl (by go_simp) (by go_simp) ?_;refine f_norm (by go_simp;exact rfl) ?_;refine f_read (v:= .pointer (some ⟨b,0,none⟩)) rfl rfl (by go_simp) (by go_simp) ?_;refine f_norm (by go_simp;exact rfl) ?_;refine f_read (v:= .pointer (some ⟨b,0,none⟩)) rfl rfl (by go_simp) (by go_simp) ?_;refine f_norm (by go_simp;exact rfl) ?_;refine f_read (v:= .pointer (some ⟨b,2,none⟩)) rfl rfl (by go_simp) (by go_simp) ?_;refine f_norm (by go_simp;exact rfl) ?_;refine f_read (v:= .slice (some ⟨g,0,none⟩) l.length lc) rfl rfl (by go_simp) (by go_simp) ?_;refine f_norm (by go_simp;exact rfl) ?_;refine f_read (v:= .int .i64 l.length) rfl rfl (by go_simp) (by go_simp) ?_;refine f_norm (by go_simp;exact rfl) ?_;refine f_read (v:= .int .i64 c) rfl rfl (by go_simp) (by go_simp) ?_;refine f_norm (by go_simp;exact rfl) ?_;refine f_read (v:= .pointer (some ⟨g,0+c*32,none⟩)) rfl rfl (run_ix _ rfl g 0 l.length lc c 32 33 rfl rfl hcl Tryz.underlying113 hash_size) (run_ix _ rfl g 0 l.length lc c 32 33 rfl rfl hcl Tryz.underlying113 hash_size) ?_;refine f_norm (by go_simp;exact rfl) ?_;refine f_read (v:= .agg (x0.map u8v).toArray) rfl rfl (run_ld _ 33 _ rfl g (0+c*32) (by rw[Nat.zero_add];rfl) (x0.map u8v) Tryz.underlying33 rfl HSX.o HL.o) (run_ld _ 33 _ rfl g (0+c*32) (by rw[Nat.zero_add];rfl) (x0.map u8v) Tryz.underlying33 rfl HSX.o HL2.o) ?_;refine f_norm (by go_simp;exact rfl) ?_;refine f_alloc (v:= .pointer (some ⟨w.heap.size+1,0,none⟩)) rfl rfl (by go_simp) ?_;refine f_norm (by go_simp;exact rfl) ?_;refine f_nil ?_;refine store_new rfl 33 _ _ rfl zero32 33 (by go_simp) (x0.map u8v) rfl HSX.o HLL32.o HO1.o ?_;have HU1:=ZA ((HX.o.trans ((Upd.refl none' _).drew)).alloc (.cells (x0.map u8v).toArray 33));have HQ1:=ZA (show ((w.alloc (.cells zero32 33)).drew.alloc (.cells (x0.map u8v).toArray 33)).heap[w.heap.size+1]? =some (.cells (x0.map u8v).toArray 33 (0,0)) from by have:=blk_alloc ((w.alloc (.cells zero32 33)).drew) (.cells (x0.map u8v).toArray 33);rwa [show ((w.alloc (.cells zero32 33)).drew).heap.size=w.heap.size+1 from HSZ0.o] at this);have HUD:=ZA (((Upd.refl none' (w.alloc (.cells zero32 33))).drew).alloc (.cells (x0.map u8v).toArray 33));have HD1:=ZA (HD.o.ext HUD.o);have HZ1:=ZA (Ext.blk HUD.o HQ.o);have HT1:=ZA (HT.o.ext HUD.o);clear HUD HL HL2 HQ HD c0 c2;generalize ((w.alloc (.cells zero32 33)).drew.alloc (.cells (x0.map u8v).toArray 33))=w1 at*;have c2:w1.cell? ⟨b,2,none⟩=some (.slice (some ⟨g,0,none⟩) l.length lc):=cell_of_blk HD1.o.blk 2;have hcw2:IntKind.i64.wrap ((c:Int) - 1)=(c:Int) - 1:=IntWalk.i64_in _ (by omega);go_wp2_with fail;go_loopw [4] (fun iv wr=> RtRel (w.heap.size+1) l c x0 w1 iv wr) (fun iv _=> (RowKit.intOf iv+1).toNat);case atStart=> exact ⟨0,by omega,by simp,x0,by rw[cr_zero],HLL.o,HQ1.o,Upd.refl _ _⟩
  case round=>
   obtain ⟨k,hk,rfl,x,hx,hx32,hq,hu⟩:=hrel;have HU:=ZA hu;have HQQ:=ZA hq;have HX32:=ZA hx32;have HXE:=ZA hx;have HSXX:=ZA (hash_size32 x hx32);have HO1X:=ZA (u8_ones x);clear hu hq hx32 hx;by_cases hlt:k < c
   ·obtain ⟨m,hm⟩:∃m,m=c - 1 - k:=⟨_,rfl⟩;have him:(c:Int) - 1 - k=(m:Nat):=by omega
    have hml:m < l.length:=by omega
    have hge:(0:Int)≤m:=by omega
    have hm64:m≤64:=by omega
    have HXN:=ZA (show nodeH (l.getD m []) x=cr nodeH (l.take c) (k+1) x0 by rw[cr_succ nodeH _ _ _ (by rw[List.length_take];omega),HXE.o];congr 1;rw[List.length_take,show min c l.length=c by omega,←hm,List.getD_eq_getElem?_getD,List.getD_eq_getElem?_getD,List.getElem?_take,if_pos (by omega)])
    have HY32:=ZA (h32.getD m hml);have HDW:Hid (BldAt B wr b (.slice (some ⟨g,0,none⟩) l.length lc) n l):=ZA (HD1.o.upd HU.o (fun gg hg e=> by
     have h2:gg=w.heap.size+1:=e;rcases hg with hg | hg
     ·have:gg=b:=hg;omega
     ·have h1:gg=g:=by simpa[Value.ownBlock] using hg.symm
      have:=HGL.o;omega))
    have HA:=ZA (fun (w7:World) (h7:Ext wr w7)=> hash_at (CellsAt.row32 (HDW.o.ext h7).row) h32 m hml);have HSY:=ZA (hash_size32 _ HY32.o);have HM:=ZA hm;rw[him];clear hm;generalize hy0:l.getD m []=y at*;clear hy0;have cw:∀w7,Ext wr w7→w7.cell? ⟨b,2,none⟩=some (.slice (some ⟨g,0,none⟩) l.length lc):=fun w7 h7=> cell_of_blk (HDW.o.ext h7).blk 2;have HCW:=ZA cw;clear cw;go_wp2_with fail;refine region_inv_tail 9 (fun w'=> Ext wr w') (by kernel_rfl) (by kernel_rfl) (by kernel_rfl) (by kernel_rfl) (by kernel_rfl) (by kernel_rfl) ((Upd.refl none' wr).drew) ?_;simp only[List.take_succ_cons,List.take_zero,List.drop_succ_cons,List.drop_zero];refine inv_move rfl rfl (.pointer (some ⟨b,0,none⟩)) rfl ?_;refine inv_norm (by go_simp;exact rfl) ?_;refine inv_pure (v:= .pointer (some ⟨b,0,none⟩)) rfl (fun w7=> by go_simp) ?_;refine inv_norm (by go_simp;exact rfl) ?_;refine inv_pure (v:= .pointer (some ⟨b,2,none⟩)) rfl (fun w7=> by go_simp) ?_;refine inv_norm (by go_simp;exact rfl) ?_;refine inv_load1 rfl rfl ⟨b,2,none⟩ (.slice (some ⟨g,0,none⟩) l.length lc) rfl Tryz.underlying113 rfl (fun w7 h7=> HCW.o w7 h7) ?_;refine inv_norm (by go_simp;exact rfl) ?_;refine inv_move rfl rfl (.int .i64 m) rfl ?_;refine inv_norm (by go_simp;exact rfl) ?_;refine inv_indexSlice rfl rfl g 0 l.length lc m 32 33 rfl rfl hml Tryz.underlying113 hash_size ?_;refine inv_norm (by go_simp;exact rfl) ?_;refine inv_loadAgg rfl 33 _ rfl g (0+m*32) (by go_simp) (y.map u8v) Tryz.underlying33 rfl HSY.o (fun w7 h7 j v hv=> HA.o w7 h7 j v hv) ?_;refine inv_norm (by go_simp;exact rfl) ?_;refine inv_loadAgg rfl 33 _ rfl (w.heap.size+1) 0 rfl (x.map u8v) Tryz.underlying33 rfl HSXX.o (fun w7 h7 j v hv=> blk_cells (Ext.blk h7 HQQ.o) j v hv) ?_;refine inv_norm (by go_simp;exact rfl) ?_;refine inv_call (v:=hashV (nodeH y x)) rfl 55 [.tmp 50,.tmp 51] _ rfl body_node [hashV y,hashV x] rfl (fun w7 h7=> (node_h w7 y x HY32.o HX32.o (by have a1:=HG.o;have a2:=HU1.o.size;have a3:=HU.o.size;have a4:=(show Ext wr w7 from h7).size;omega) ((HT1.o.upd HU.o (fun e=> by have e2:21=w.heap.size+1:=e;have:=HG.o;omega)).ext h7)).mono (by rintro e w8 ⟨rfl,u⟩;exact ⟨rfl,h7.trans u⟩)) ?_;refine inv_norm (by go_simp;exact rfl) ?_;refine inv_nil ?_;intro w5 h5;have HN32:=ZA (show (nodeH y x).length=32 from shaB_len _);have HSN:=ZA (hash_size32 (nodeH y x) HN32.o);have HON:=ZA (u8_ones (nodeH y x));have HLN:=ZA (show (x.map u8v).length=((nodeH y x).map u8v).length by rw[List.length_map,List.length_map,HX32.o,HN32.o]);have HQ5:=ZA (Ext.blk h5 HQQ.o);have H5:=ZA (show Ext wr w5 from h5);clear h5;go_wp2_with (refine store_whole rfl 33 _ _ rfl (w.heap.size+1) rfl ((nodeH y x).map u8v) rfl HSN.o _ _ HQ5.o HLN.o HON.o ?_);have hd1:(m:Int) - 1=(c:Int) - 1 - (k+1:Nat):=by omega
    exact ⟨⟨k+1,by omega,by rw[←hd1],nodeH y x,HXN.o,HN32.o,blk_setRow HQ5.o _,(HU.o.trans (H5.o.mono (fun _ _ h=> h.elim))).setRow (.inr rfl) _⟩,by simp[RowKit.intOf]⟩
   ·have hkc:k=c:=by omega
    have hm1:(c:Int) - 1 - k= -1:=by omega
    have HKC:=ZA hkc;rw[hm1];clear hkc;have HZ2:=ZA (HU.o.blk HZ1.o (fun e=> by have e2:w.heap.size=w.heap.size+1:=e;omega));have HCX:=ZA (blk_cells HQQ.o);have HLZ:=ZA (show zero32.toList.length=(x.map u8v).length by rw[List.length_map,HX32.o];rfl);go_wp2_with (first
     | (refine wpList_loadAgg rfl 33 _ rfl (w.heap.size+1) 0 rfl (x.map u8v) Tryz.underlying33 rfl HSXX.o HCX.o ?_)
     | (refine store_whole rfl 33 _ _ rfl w.heap.size rfl (x.map u8v) rfl HSXX.o _ _ HZ2.o HLZ.o HO1X.o ?_))
    have hsz:(Tryz.prog.info? 33).map (·.size)=some (x.map u8v).toArray.size:=by rw[HSXX.o];simp
    exact bodyPost_ret (v:= .agg (x.map u8v).toArray) (results_cell_row rfl _ _ w.heap.size 33 _ (0,0) _ rfl (blk_setRow HZ2.o _) Tryz.underlying33 rfl hsz) rfl ⟨by rw[HFP.o,HXE.o,HKC.o],Upd.setRow (HU1.o.then HU.o (fun b hb e=> by have e2:b=w.heap.size+1:=e;omega)) (.inl (Nat.le_refl _)) _⟩
theorem ctz_ones:∀(f n:Nat),n+1 < 2 ^ f→Lib.ctzFrom f (2 ^ f - 1 - n)=ones n:=by
 intro f;induction f with
 | zero=> intro n h;simp at h
 | succ f ih=>
  intro n h;have e:2 ^ (f+1)=2*2 ^ f:=by rw[Nat.pow_succ];omega
  unfold Lib.ctzFrom;by_cases ho:n % 2=1
  ·rw[if_neg (by omega),ones_odd ho,show (2 ^ (f+1) - 1 - n) / 2=2 ^ f - 1 - n / 2 by omega,ih (n / 2) (by omega)];omega
  ·rw[if_pos (by omega),ones_even ho]
theorem ctz_compl(n:Nat)(h:n+1 < 18446744073709551616):Lib.ctz 64 (18446744073709551615 - n)=ones n:=by unfold Lib.ctz;rw[if_neg (by omega)];exact ctz_ones 64 n h
theorem ctz_core(x k idx:Nat)(w:World)(hx0:((x:Int)==0)=false)
 (key:IntKind.u64.wrap (bits BinOp.and IntKind.u64 (x:Int) (IntKind.u64.wrap (-(x:Int)))*285870213051353865) / 288230376151711744=(idx:Int))
 (hi:idx < 64) (hk:k < 64) (hcell:w.cell? ⟨20,idx,none⟩=some (.int .u8 k)):
 Calls Tryz.prog 238 #[.int .u64 x] w fun e w'=> e= .returned (.int .i64 k)∧w=w':=by
 have hii:((idx:Nat):Int) < 64:=by omega
 have hkk:(k:Int) < 64:=by omega
 go_enter Tryz.func238,Tryz.ntmps238;go_wp2_with (simp only[key]);go_ret;exact ⟨rfl,rfl⟩
theorem ctz_any(x:Nat)(hx0:x≠0)(hx:x < 18446744073709551616)(w:World)(hT:TabAt 20 Lib.deBruijn64tab w):
 Calls Tryz.prog 238 #[.int .u64 x] w fun e w'=> e= .returned (.int .i64 (Lib.ctz 64 x))∧w=w':=by
 obtain ⟨hlow,hk⟩:=Lib.lowest_bit 64 x hx0 hx;obtain ⟨hi,htab⟩:=Lib.deBruijn64_at _ hk;have hcell:=hT _ hi;rw[htab] at hcell;exact ctz_core x _ _ w (by simp;omega) (tz64_key x _ hx hx0 hlow) hi hk hcell
theorem tabAt_ext{g:Nat}{tab:List Nat}{w w':World}(h:TabAt g tab w)(u:Ext w w'):TabAt g tab w':=fun j hj=> Ext.cellv u (h j hj)
section
variable {P:Program} {ops:Array Oper} {md:Region.Mode} {I:World→Prop}
def onlyB(md:Region.Mode)(ops:Array Oper)(ks:List Nat):Nat→Array Bool→Bool
 | 0,listed=> ks.all fun k=> listed.getD k false
 | m+1,listed=> !(Region.ready md ops listed).isEmpty && (Region.ready md ops listed).all fun i=> ks.contains i && onlyB md ops ks m (listed.setIfInBounds i true)
def seqB(md:Region.Mode)(ops:Array Oper):List Nat→Array Bool→Bool
 | [],_=> true
 | k::ks,listed=> (Region.ready md ops listed).contains k && Region.free md ops listed k && seqB md ops ks (listed.setIfInBounds k true)
def anySeq(P:Program)(md:Region.Mode)(ops:Array Oper)(I:World→Prop)(K:Array Bool→Act→Prop):Nat→Array Bool→Act→Prop
 | 0,listed,a=> K listed a
 | m+1,listed,a=> ∀i∈Region.ready md ops listed,∃o v,ops[i]? =some o∧InvYields P ops I o v a∧anySeq P md ops I K m (listed.setIfInBounds i true) (a.put o.dst v)
theorem onlyB_succ{ks:List Nat}{m:Nat}{listed:Array Bool}(h:onlyB md ops ks (m+1) listed=true):Region.ready md ops listed≠ []∧∀i∈Region.ready md ops listed,i∈ks∧onlyB md ops ks m (listed.setIfInBounds i true)=true:=by unfold onlyB at h;simp only[Bool.and_eq_true,Bool.not_eq_true',List.isEmpty_eq_false_iff,List.all_eq_true,List.contains_iff_mem] at h;exact h
theorem anySeq_sound{K:Array Bool→Act→Prop}{Q:Exit→Act→World→Prop}{ks:List Nat}{t:Nat}(hK:∀listed a w,K listed a→I w→wpAny P md ops Q t listed a w):
 ∀(m:Nat) (listed:Array Bool) (a:Act),onlyB md ops ks m listed=true→anySeq P md ops I K m listed a→∀w,I w→wpAny P md ops Q (m+t) listed a w
 | 0,listed,a,_,h,w,hw=> by rw[Nat.zero_add];exact hK listed a w h hw
 | m+1,listed,a,ho,h,w,hw=> by obtain ⟨h1,h2⟩:=onlyB_succ ho;rw[show m+1+t=m+t+1 by omega];refine ⟨fun e=> absurd e h1,fun i hi=> ?_⟩;obtain ⟨o,v,hio,hy,hk⟩:=h i hi;exact hy.wp hio hw fun w' hw'=> anySeq_sound hK m _ _ (h2 i hi).2 hk w' hw'
theorem anySeq_first{K:Array Bool→Act→Prop}{i:Nat}{oi:Oper}{v:Value}{ks:List Nat}(hi:ops[i]? =some oi)(hsel:∀(j:Nat) (o:Oper) cs b,ops[j]? =some o→o.op≠ .select cs b):
 ∀(m:Nat) (listed:Array Bool) (a:Act),onlyB md ops ks (m+1) listed=true→
  (∀j oj,ops[j]? =some oj→j≠i→listed.getD j true=false→(∀e∈oj.after,Region.binds md e=true→e.on≠i)→oi.apart ops oj=true)→
  i∈Region.ready md ops listed→InvYields P ops I oi v a→anySeq P md ops I K m (listed.setIfInBounds i true) (a.put oi.dst v)→anySeq P md ops I K (m+1) listed a:=by
 intro m;induction m with
 | zero=>
  intro listed a ho _ hr hy H j hj;by_cases hji:j=i
  ·subst hji;exact ⟨oi,v,hi,hy,H⟩
  ·exfalso;obtain ⟨_,h2⟩:=onlyB_succ ho;have h3:=(h2 i hr).2;unfold onlyB at h3;have h4:=List.all_eq_true.1 h3 j (h2 j hj).1;rw[getD_set_ne false (Ne.symm hji)] at h4;have h5:=(mem_ready.1 hj).1;rcases Nat.lt_or_ge j listed.size with h' | h'
   ·simp[h'] at h4 h5;rw[h4] at h5;cases h5
   ·simp[Array.getElem?_eq_none h'] at h4
 | succ m ih=>
  intro listed a ho hfree hr hy H j hj;by_cases hji:j=i
  ·subst hji;exact ⟨oi,v,hi,hy,H⟩
  ·obtain ⟨oj,u,hoj,hyj,hkj⟩:=H j (ready_mono hj hji);obtain ⟨hjun,oj',hoj',hall⟩:=mem_ready.1 hj;obtain rfl:oj'=oj:=Option.some.inj (hoj'.symm.trans hoj);have hnot:∀e∈oj'.after,Region.binds md e=true→e.on≠i:=fun e he hb heq=> by
    have h1:=hall e he hb;have h0:=(mem_ready.1 hr).1;rw[heq] at h1;rcases Nat.lt_or_ge i listed.size with h' | h'
    ·simp[h'] at h0 h1;rw[h0] at h1;cases h1
    ·simp[Array.getElem?_eq_none h'] at h1
   obtain ⟨a1,a2,a3⟩:=Oper.apart_spec (hfree j oj' hoj hji hjun hnot);have hfree':∀k ok,ops[k]? =some ok→k≠i→(listed.setIfInBounds j true).getD k true=false→
    (∀e∈ok.after,Region.binds md e=true→e.on≠i)→oi.apart ops ok=true:=fun k ok hk hki hun hno=> by
    refine hfree k ok hk hki ?_ hno;by_cases hjk:j=k
    ·subst hjk;exact hjun
    ·rw[getD_set_ne true hjk] at hun;exact hun
   refine ⟨oj',u,hoj,(InvYields.of_put (hsel j oj' · · hoj) a1).1 hyj,ih (listed.setIfInBounds j true) (a.put oj'.dst u) ((onlyB_succ ho).2 j hj).2 hfree' (ready_mono hr (Ne.symm hji)) ((InvYields.of_put (hsel i oi · · hi) a3).2 hy) ?_⟩;rw[Array.setIfInBounds_comm _ _ hji,Act.put_comm a u v (fun d hd e=> a2 d e hd)];exact hkj
theorem anySeq_lex{Q:Act→Prop}{ks0:List Nat}(hs:Region.noSelect ops=true):∀(ks:List Nat) (l:List Oper) (listed:Array Bool) (a:Act),(ks.map fun k=> ops[k]?)=l.map some→
 seqB md ops ks listed=true→onlyB md ops ks0 ks.length listed=true→wpInv P ops I Q l a→anySeq P md ops I (fun L a'=> L=ks.foldl (fun L k=> L.setIfInBounds k true) listed∧Q a') ks.length listed a
 | [],[],_,_,_,_,_,h=> ⟨rfl,h⟩
 | [],o::l,_,_,hl,_,_,_=> by simp at hl
 | k::ks,[],_,_,hl,_,_,_=> by simp at hl
 | k::ks,o::l,listed,a,hl,hB,ho,h=> by
  simp only[List.map_cons,List.cons.injEq] at hl;simp only[seqB,Bool.and_eq_true,List.contains_iff_mem] at hB;obtain ⟨⟨hr,hf⟩,hB'⟩:=hB;obtain ⟨v,hy,hK⟩:=h;exact anySeq_first hl.1 (Region.noSelect_spec hs) ks.length listed a ho (Region.free_spec hl.1 hf) hr hy
   (anySeq_lex hs ks l _ _ hl.2 hB' ((onlyB_succ ho).2 k hr).2 hK)
theorem any_seq{Q:Exit→Act→World→Prop}{a:Act}{w:World}{listed:Array Bool}{t:Nat}(ks:List Nat)(l:List Oper)(I:World→Prop)(hns:Region.noSelect ops=true)(hl:(ks.map fun k=> ops[k]?)=l.map some)
 (hs:seqB md ops ks listed=true) (ho:onlyB md ops ks ks.length listed=true) (hI:I w)
 (h:wpInv P ops I (fun a'=> ∀w',I w'→wpAny P md ops Q t (ks.foldl (fun L k=> L.setIfInBounds k true) listed) a' w') l a):wpAny P md ops Q (ks.length+t) listed a w:=
 anySeq_sound (ks:=ks) (fun L a' w' hk hw'=> by obtain ⟨rfl,hq⟩:=hk;exact hq w' hw') ks.length listed a ho (anySeq_lex hns ks l listed a hl hs ho h) w hI
end
section
variable {P:Program} {o:Oper} {a:Act}
theorem run_slLo(w:World)(ho:o.op= .slice t x (some ix) none none)(A:Option Addr)(n c k sz:Nat)(e:TypeId)(hx:a.eval x= .slice A n c)(hi:a.eval ix= .int .i64 k)(hk:k≤n)
 (hu:P.underlying t=some (.slice e)) (hs:(P.info? e).map (·.size)=some sz):(execOp a.eval o).run P w= .ok (.value (.slice (if c=k then A else A.map (·.add (k*sz))) (n - k) (c - k))) w:=by
 cases hq:P.info? e with
 | none=> simp[hq] at hs
 | some i=>
  have his:i.size=sz:=by simpa[hq] using hs
  have hk2:(0:Int)≤(k:Int)∧(k:Int)≤n:=by omega
  simp[execOp,ho,hx,hi,Instr.sliceAt,Instr.slice,Instr.sliceBounds,Instr.sliceBound,run_underlying hu,asIntOf,sizeOf,typeInfo,hq,his,hk2,hk]
theorem run_slHi(w:World)(ho:o.op= .slice t x none (some ix) none)(A:Option Addr)(n c k sz:Nat)(e:TypeId)(hx:a.eval x= .slice A n c)(hA:A=none∨∃g,A=some ⟨g,0,none⟩)(hi:a.eval ix= .int .i64 k)(hk:k≤c)
 (hu:P.underlying t=some (.slice e)) (hs:(P.info? e).map (·.size)=some sz):(execOp a.eval o).run P w= .ok (.value (.slice A k c)) w:=by
 cases hq:P.info? e with
 | none=> simp[hq] at hs
 | some i=>
  have his:i.size=sz:=by simpa[hq] using hs
  have hk2:(0:Int)≤(k:Int)∧(k:Int)≤c:=by omega
  have hA2:A.map (·.add 0)=A:=by
   rcases hA with rfl | ⟨g,rfl⟩
   ·rfl
   ·simp only[Option.map_some,Addr.add_lit]
  simp[execOp,ho,hx,hi,Instr.sliceAt,Instr.slice,Instr.sliceBounds,Instr.sliceBound,run_underlying hu,asIntOf,sizeOf,typeInfo,hq,hk2,hk,hA2]
theorem run_ld1(w:World){ty:TypeId}(ho:o.op= .load ty x)(p:Addr)(v:Value)(hx:a.eval x= .pointer (some p)){d:TypeDesc}(hu:P.underlying ty=some d)(hd:aggD d=false)(hc:w.cell? p=some v):(execOp a.eval o).run P w= .ok (.value v) w:=by
 have hagg:(isAgg ty).run P w= .ok false w:=by unfold isAgg;rw[Sem.run_bind,run_underlying hu w];cases d <;> simp_all [aggD]
 simp[execOp,ho,hx,Instr.loadAt,Instr.sureAddr,loadVar,Sem.run_bind,hagg,hc]
end
section
variable {P:Program} {ops:Array Oper} {md:Region.Mode} {W0 W1:World} {p:Nat}
def YM(P:Program)(ops:Array Oper)(W0 W1:World)(p i:Nat)(o:Oper)(v:Value)(a:Act):Prop:=
 (Region.wanted o (yielded ops a.tmps)=true∧(execOp a.eval o).run P W0= .ok (.value v) (if i=p then W1 else W0)∧(i≠p→(execOp a.eval o).run P W1= .ok (.value v) W1))∨(Region.wanted o (yielded ops a.tmps)=false∧v=undef∧i≠p)∨(Region.wanted o (yielded ops a.tmps)=true∧v=undef∧i=p∧(execOp a.eval o).run P W0= .ok .skip W1)
theorem YM.of_put{i:Nat}{o:Oper}{v:Value}{a:Act}{u:Value}(hs:∀cs b,o.op≠ .select cs b)(h:∀t,d=some t→t∉o.looksAt ops):YM P ops W0 W1 p i o v (a.put d u)↔YM P ops W0 W1 p i o v a:=by unfold YM;rw[execOp_put o hs a d u h,wanted_put o a d u h]
theorem YM.wp{o:Oper}{i:Nat}{v:Value}{a:Act}{b:Bool}(hi:ops[i]? =some o)(hy:YM P ops W0 W1 p i o v a)(hb:i=p→b=false){K:Act→World→Prop}{Q:Exit→Act→World→Prop}(h:K (a.put o.dst v) (if b || decide (i=p) then W1 else W0)):wpOp P ops Q i K a (if b then W1 else W0):=by
 unfold wpOp;simp only[hi];rcases hy with ⟨h1,h2,h3⟩ | ⟨h1,rfl,h3⟩ | ⟨h1,rfl,hip,h2⟩
 ·rw[if_pos h1];left;unfold Oper.wp;by_cases hip:i=p
  ·rw[hb hip] at h⊢;rw[if_pos hip] at h2;simp only[Bool.false_eq_true,if_false,Bool.false_or,hip,decide_true,if_true] at h⊢;rw[h2];exact h
  ·rw[if_neg hip] at h2;simp only[hip,decide_false,Bool.or_false] at h;cases b
   ·simp only[Bool.false_eq_true,if_false] at h⊢;rw[h2];exact h
   ·simp only[if_true] at h⊢;rw[h3 hip];exact h
 ·rw[h1];simp only[h3,decide_false,Bool.or_false] at h;exact h
 ·rw[if_pos h1];left;unfold Oper.wp;rw[hb hip] at h⊢;simp only[Bool.false_eq_true,if_false,Bool.false_or,hip,decide_true,if_true] at h⊢;rw[h2];exact h
def anySeqM(P:Program)(md:Region.Mode)(ops:Array Oper)(W0 W1:World)(p:Nat)(K:Array Bool→Act→Prop):Nat→Array Bool→Act→Prop
 | 0,listed,a=> K listed a
 | m+1,listed,a=> ∀i∈Region.ready md ops listed,∃o v,ops[i]? =some o∧YM P ops W0 W1 p i o v a∧anySeqM P md ops W0 W1 p K m (listed.setIfInBounds i true) (a.put o.dst v)
theorem getD_ff{listed:Array Bool}{i:Nat}(h:listed.getD i true=false):listed.getD i false=false∧i < listed.size:=by
 rcases Nat.lt_or_ge i listed.size with h' | h'
 ·refine ⟨?_,h'⟩;simp[h'] at h⊢;exact h
 ·simp[Array.getElem?_eq_none h'] at h
theorem anySeqM_sound{K:Array Bool→Act→Prop}{Q:Exit→Act→World→Prop}{ks:List Nat}{t:Nat}(hp:p∈ks)(hK:∀listed a,K listed a→wpAny P md ops Q t listed a W1):
 ∀(m:Nat) (listed:Array Bool) (a:Act),onlyB md ops ks m listed=true→anySeqM P md ops W0 W1 p K m listed a→wpAny P md ops Q (m+t) listed a (if listed.getD p false then W1 else W0)
 | 0,listed,a,ho,h=> by unfold onlyB at ho;rw[List.all_eq_true.1 ho p hp,if_pos rfl,Nat.zero_add];exact hK listed a h
 | m+1,listed,a,ho,h=> by
  obtain ⟨h1,h2⟩:=onlyB_succ ho;rw[show m+1+t=m+t+1 by omega];refine ⟨fun e=> absurd e h1,fun i hi=> ?_⟩;obtain ⟨o,v,hio,hy,hk⟩:=h i hi;obtain ⟨hif,hil⟩:=getD_ff (mem_ready.1 hi).1;refine hy.wp (b:=listed.getD p false) hio (fun e=> by rw[←e];exact hif) ?_;have:=anySeqM_sound hp hK m _ _ (h2 i hi).2 hk;by_cases hip:i=p
  ·subst hip;have e1:(listed.setIfInBounds i true).getD i false=true:=by rw[getD_set _ _ _ hil,if_pos rfl]
   rw[e1,if_pos rfl] at this;simp only[decide_true,Bool.or_true,if_true];exact this
  ·rw[getD_set_ne false hip] at this;simp only[hip,decide_false,Bool.or_false];exact this
theorem anySeqM_first{K:Array Bool→Act→Prop}{i:Nat}{oi:Oper}{v:Value}{ks:List Nat}(hi:ops[i]? =some oi)(hsel:∀(j:Nat) (o:Oper) cs b,ops[j]? =some o→o.op≠ .select cs b):
 ∀(m:Nat) (listed:Array Bool) (a:Act),onlyB md ops ks (m+1) listed=true→
  (∀j oj,ops[j]? =some oj→j≠i→listed.getD j true=false→(∀e∈oj.after,Region.binds md e=true→e.on≠i)→oi.apart ops oj=true)→
  i∈Region.ready md ops listed→YM P ops W0 W1 p i oi v a→anySeqM P md ops W0 W1 p K m (listed.setIfInBounds i true) (a.put oi.dst v)→anySeqM P md ops W0 W1 p K (m+1) listed a:=by
 intro m;induction m with
 | zero=>
  intro listed a ho _ hr hy H j hj;by_cases hji:j=i
  ·subst hji;exact ⟨oi,v,hi,hy,H⟩
  ·exfalso;obtain ⟨_,h2⟩:=onlyB_succ ho;have h3:=(h2 i hr).2;unfold onlyB at h3;have h4:=List.all_eq_true.1 h3 j (h2 j hj).1;rw[getD_set_ne false (Ne.symm hji)] at h4;have h5:=(mem_ready.1 hj).1;rcases Nat.lt_or_ge j listed.size with h' | h'
   ·simp[h'] at h4 h5;rw[h4] at h5;cases h5
   ·simp[Array.getElem?_eq_none h'] at h4
 | succ m ih=>
  intro listed a ho hfree hr hy H j hj;by_cases hji:j=i
  ·subst hji;exact ⟨oi,v,hi,hy,H⟩
  ·obtain ⟨oj,u,hoj,hyj,hkj⟩:=H j (ready_mono hj hji);obtain ⟨hjun,oj',hoj',hall⟩:=mem_ready.1 hj;obtain rfl:oj'=oj:=Option.some.inj (hoj'.symm.trans hoj);have hnot:∀e∈oj'.after,Region.binds md e=true→e.on≠i:=fun e he hb heq=> by
    have h1:=hall e he hb;have h0:=(mem_ready.1 hr).1;rw[heq] at h1;rcases Nat.lt_or_ge i listed.size with h' | h'
    ·simp[h'] at h0 h1;rw[h0] at h1;cases h1
    ·simp[Array.getElem?_eq_none h'] at h1
   obtain ⟨a1,a2,a3⟩:=Oper.apart_spec (hfree j oj' hoj hji hjun hnot);have hfree':∀k ok,ops[k]? =some ok→k≠i→(listed.setIfInBounds j true).getD k true=false→
    (∀e∈ok.after,Region.binds md e=true→e.on≠i)→oi.apart ops ok=true:=fun k ok hk hki hun hno=> by
    refine hfree k ok hk hki ?_ hno;by_cases hjk:j=k
    ·subst hjk;exact hjun
    ·rw[getD_set_ne true hjk] at hun;exact hun
   refine ⟨oj',u,hoj,(YM.of_put (hsel j oj' · · hoj) a1).1 hyj,ih (listed.setIfInBounds j true) (a.put oj'.dst u) ((onlyB_succ ho).2 j hj).2 hfree' (ready_mono hr (Ne.symm hji)) ((YM.of_put (hsel i oi · · hi) a3).2 hy) ?_⟩;rw[Array.setIfInBounds_comm _ _ hji,Act.put_comm a u v (fun d hd e=> a2 d e hd)];exact hkj
def wpM(P:Program)(ops:Array Oper)(W0 W1:World)(p:Nat)(Q:Act→Prop):List Nat→List Oper→Act→Prop
 | k::ks,o::l,a=> ∃v,YM P ops W0 W1 p k o v a∧wpM P ops W0 W1 p Q ks l (a.put o.dst v)
 | _,_,a=> Q a
theorem anySeqM_lex{Q:Act→Prop}{ks0:List Nat}(hs:Region.noSelect ops=true):∀(ks:List Nat) (l:List Oper) (listed:Array Bool) (a:Act),(ks.map fun k=> ops[k]?)=l.map some→
 seqB md ops ks listed=true→onlyB md ops ks0 ks.length listed=true→wpM P ops W0 W1 p Q ks l a→anySeqM P md ops W0 W1 p (fun L a'=> L=ks.foldl (fun L k=> L.setIfInBounds k true) listed∧Q a') ks.length listed a
 | [],[],_,_,_,_,_,h=> ⟨rfl,h⟩
 | [],o::l,_,_,hl,_,_,_=> by simp at hl
 | k::ks,[],_,_,hl,_,_,_=> by simp at hl
 | k::ks,o::l,listed,a,hl,hB,ho,h=> by
  simp only[List.map_cons,List.cons.injEq] at hl;simp only[seqB,Bool.and_eq_true,List.contains_iff_mem] at hB;obtain ⟨⟨hr,hf⟩,hB'⟩:=hB;obtain ⟨v,hy,hK⟩:=h;exact anySeqM_first hl.1 (Region.noSelect_spec hs) ks.length listed a ho (Region.free_spec hl.1 hf) hr hy
   (anySeqM_lex hs ks l _ _ hl.2 hB' ((onlyB_succ ho).2 k hr).2 hK)
theorem any_seqM{Q:Exit→Act→World→Prop}{a:Act}{listed:Array Bool}{t:Nat}(p:Nat)(W1:World)(ks:List Nat)(l:List Oper)(hns:Region.noSelect ops=true)(hl:(ks.map fun k=> ops[k]?)=l.map some)
 (hs:seqB md ops ks listed=true) (ho:onlyB md ops ks ks.length listed=true) (hp:ks.contains p=true) (hlp:listed.getD p false=false)
 (h:wpM P ops W0 W1 p (fun a'=> wpAny P md ops Q t (ks.foldl (fun L k=> L.setIfInBounds k true) listed) a' W1) ks l a):wpAny P md ops Q (ks.length+t) listed a W0:=by
 have:=anySeqM_sound (ks:=ks) (W0:=W0) (W1:=W1) (p:=p) (by simpa using hp) (fun L a' hk=> by obtain ⟨rfl,hq⟩:=hk;exact hq) ks.length listed a ho (anySeqM_lex hns ks l listed a hl hs ho h);rw[hlp] at this;exact this
end
section
variable {P:Program} {ops:Array Oper} {W0 W1:World} {p:Nat} {Q:Act→Prop} {k:Nat} {ks:List Nat} {o:Oper} {l:List Oper} {a:Act} {v:Value}
theorem m_read(hw:Region.wanted o (yielded ops a.tmps)=true)(hk:k≠p)(h0:(execOp a.eval o).run P W0= .ok (.value v) W0)(h1:(execOp a.eval o).run P W1= .ok (.value v) W1)(h:wpM P ops W0 W1 p Q ks l (a.put o.dst v)):wpM P ops W0 W1 p Q (k::ks) (o::l) a:=
 ⟨v,.inl ⟨hw,by rw[if_neg hk];exact h0,fun _=> h1⟩,h⟩
theorem m_make(hw:Region.wanted o (yielded ops a.tmps)=true)(h0:(execOp a.eval o).run P W0= .ok (.value v) W1)(h:wpM P ops W0 W1 p Q ks l (a.put o.dst v)):wpM P ops W0 W1 p Q (p::ks) (o::l) a:=
 ⟨v,.inl ⟨hw,by rw[if_pos rfl];exact h0,fun e=> absurd rfl e⟩,h⟩
theorem m_store(hw:Region.wanted o (yielded ops a.tmps)=true)(h0:(execOp a.eval o).run P W0= .ok .skip W1)(h:wpM P ops W0 W1 p Q ks l (a.put o.dst undef)):wpM P ops W0 W1 p Q (p::ks) (o::l) a:=
 ⟨undef,.inr (.inr ⟨hw,rfl,rfl,h0⟩),h⟩
theorem m_norm{a':Act}(h:a=a')(hk:wpM P ops W0 W1 p Q ks l a'):wpM P ops W0 W1 p Q ks l a:=h▸hk
theorem m_nil(h:Q a):wpM P ops W0 W1 p Q [] [] a:=h
end
end Go.Proofs.YtjnjpgdoncbahaaGreatDoor
