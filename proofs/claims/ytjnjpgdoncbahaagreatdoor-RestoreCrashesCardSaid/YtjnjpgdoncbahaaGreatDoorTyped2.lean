/- The steps of a region by what its slots hold (Typed): each slot holds a value that is known, or an error of a kind that is known. A region that draws its order and ends in operations that wait for all others (an append, a store, an assignment): those ahead by what each slot holds (Typed2), the last ones by a walk of their own. Nothing of the program. A region that draws its order: quiet operations ahead, walked once in the text's order, and a last one that waits for them all. Nothing of the program. sha.block. -/
import Derived.Test.YtjnjpgdoncbahaaGreatDoorAgg
import Derived.Test.YtjnjpgdoncbahaaGreatDoorArgs
import Derived.Test.YtjnjpgdoncbahaaGreatDoorCode
import Derived.StillTailTactics
namespace Go.Proofs.YtjnjpgdoncbahaaGreatDoor
open Go.RowKit Go.Lib
set_option maxRecDepth 20000
set_option maxHeartbeats 8000000
variable {t:TypeId}
section
variable {P:Program} {l:List Oper} {w0:World} {se:Nat→Addr} {F:List (Value⊕EV)} {a0:Act} {i:Nat} {o:Oper}
theorem q_norm{Q:Exit→Act→World→Prop}{x:Exit}{a a':Act}{w:World}(h:a=a')(k:Q x a' w):Q x a w:=by subst h;exact k
end
section
variable {P:Program}
def sweep(l:List Oper):Nat→List Nat→List Nat
 | 0,S=> S
 | k+1,S=> if S.contains k then sweep l k (((l[k]?).map afterOn).getD []++S) else sweep l k S
def tailB(l:List Oper)(n:Nat):Bool:=
 (List.range l.length).all fun i=> decide (i < n) || (match l[i]? with | some o=> (List.range n).all fun j=> (sweep l n (afterOn o)).contains j | none=> true)
def guardB(l:List Oper):Bool:=l.all fun o=> match o.guard with | some (j,_)=> decide (j < l.length) | none=> true
theorem sweep_listed{l:List Oper}{p:Nat→Prop}(hd:∀i o,l[i]? =some o→p i→∀j∈afterOn o,p j):∀(k:Nat) (S:List Nat),(∀j∈S,p j)→∀j∈sweep l k S,p j
 | 0,_,h=> h
 | k+1,S,h=> by
  unfold sweep;split
  ·rename_i hk;refine sweep_listed hd k _ (fun j hj=> ?_);rcases List.mem_append.1 hj with hj | hj
   ·cases ho:l[k]? with
    | none=> simp[ho] at hj
    | some o=> exact hd k o ho (h k (by simpa using hk)) j (by simpa[ho] using hj)
   ·exact h j hj
  ·exact sweep_listed hd k S h
theorem yielded_take(l:List Oper)(n j:Nat)(h:j < n)(t:Array Value):yielded (l.take n).toArray t j=yielded l.toArray t j:=by unfold yielded;simp[h]
theorem wanted_take{l:List Oper}{n:Nat}{o:Oper}(hn:n≤l.length)(hg:guardB (l.take n)=true)(ho:o∈l.take n)(t:Array Value):Region.wanted o (yielded (l.take n).toArray t)=Region.wanted o (yielded l.toArray t):=by
 have:=List.all_eq_true.1 hg o ho;unfold Region.wanted;cases hgd:o.guard with
 | none=> rfl
 | some p=>
  obtain ⟨j,b⟩:=p;simp only[hgd,decide_eq_true_eq,List.length_take] at this;simp only;rw[yielded_take l n j (by omega)]
structure RT (l:List Oper) (n:Nat) (w0:World) (Φ:Nat→Value→World→Prop) (a0:Act) (listed:Array Bool) (a:Act) (w:World):Prop where
 j:RJ (l.take n) w0 Φ a0 ((listed.toList.take n).toArray) a w
 sz:listed.size=l.length
 lo:∀i,n≤i→i < l.length→listed.getD i false=false
 dc:∀i o,l[i]? =some o→listed.getD i false=true→∀j∈afterOn o,listed.getD j false=true
theorem take_getD(x:Array Bool)(n i:Nat)(d:Bool)(h:i < n):((x.toList.take n).toArray).getD i d=x.getD i d:=by rw[Array.getD_eq_getD_getElem?,Array.getD_eq_getD_getElem?];simp[h]
theorem take_set(x:Array Bool)(n i:Nat):(((x.setIfInBounds i true).toList.take n).toArray)=((x.toList.take n).toArray).setIfInBounds i true:=by simp[List.take_set]
theorem any_tail{l:List Oper}{m:Nat}{w0:World}{Φ:Nat→Value→World→Prop}{a0:Act}{Q:Exit→Act→World→Prop}(n:Nat)(hn:n≤l.length)(hm:∀j v w w',Φ j v w→Ext w w'→Φ j v w')(ho:onceB (l.take n) a0.tmps.size=true)
 (hb:backB (l.take n)=true) (hg:guardB (l.take n)=true) (ht:tailB l n=true) (spec:∀i o,(l.take n)[i]? =some o→OpSpec P (l.take n) w0 Φ a0 i o)
 (hQ:∀listed a w,RT l n w0 Φ a0 listed a w→(∀i,i < n→listed.getD i false=true)→wpAny P .any l.toArray Q m listed a w):
 ∀(c:Nat) (listed:Array Bool) (a:Act) (w:World),RT l n w0 Φ a0 listed a w→(List.range n).countP (fun i=> !listed.getD i true)=c→wpAny P .any l.toArray Q (c+m) listed a w:=by
 intro c;induction c with
 | zero=>
  intro listed a w h hc;rw[Nat.zero_add];refine hQ listed a w h (fun i hi=> ?_);have h0:=List.countP_eq_zero.1 hc i (List.mem_range.2 hi);have hs:i < listed.size:=by rw[h.sz];omega
  simp[hs] at h0⊢;exact h0
 | succ c ih=>
  intro listed a w h hc;rw[show c+1+m=(c+m)+1 by omega];have hex:∃i,i < n∧listed.getD i true=false:=by
   have:0 < (List.range n).countP (fun i=> !listed.getD i true):=by omega
   obtain ⟨i,hi,h1⟩:=List.countP_pos_iff.1 this;exact ⟨i,List.mem_range.1 hi,by simpa using h1⟩
  have hlow:∀i,i∈Region.ready .any l.toArray listed→i < n:=by
   intro i hi;obtain ⟨h1,o,h2,h3⟩:=mem_ready.1 hi;have hil:l[i]? =some o:=by simpa using h2
   have hlt:i < l.length:=(List.getElem?_eq_some_iff.1 hil).1;apply Classical.byContradiction;intro hni;have hb1:=List.all_eq_true.1 ht i (List.mem_range.2 hlt);simp only[hil,Bool.or_eq_true,decide_eq_true_eq] at hb1;have hb2:=hb1.resolve_left hni;obtain ⟨j,hj,hjf⟩:=hex;have hb3:=List.all_eq_true.1 hb2 j (List.mem_range.2 hj);have:=sweep_listed (l:=l) (p:=fun j=> listed.getD j false=true) h.dc n (afterOn o) (fun k hk=> by obtain ⟨e,he,rfl⟩:=List.mem_map.1 hk;obtain ⟨he1,he2⟩:=List.mem_filter.1 he;exact h3 e (by simpa using he1) he2) j (by simpa using hb3)
   have hs:j < listed.size:=by rw[h.sz];omega
   simp[hs] at this hjf;rw[hjf] at this;cases this
  refine ⟨fun hr=> ?_,fun i hi=> ?_⟩
  ·exfalso;have key:∀k,k < n→listed.getD k false=true:=by
    intro k;induction k using Nat.strongRecOn with
    | _ k ihk=>
     intro hk;have hs:k < listed.size:=by rw[h.sz];omega
     rcases Bool.eq_false_or_eq_true (listed.getD k false) with h1 | h1
     ·exact h1
     ·exfalso;have hkl:k < l.length:=by omega
      have hok:l[k]? =some l[k]:=List.getElem?_eq_getElem hkl;have hok2:(l.take n)[k]? =some l[k]:=by rw[List.getElem?_take,if_pos hk];exact hok
      have hb1:=List.all_eq_true.1 hb k (List.mem_range.2 (List.getElem?_eq_some_iff.1 hok2).1);simp only[hok2] at hb1;have:k∈Region.ready .any l.toArray listed:=mem_ready.2 ⟨by simp[hs] at h1⊢;exact h1,l[k],by simp,fun e he hbi=> by have h4:=List.all_eq_true.1 hb1 e.on (List.mem_map.2 ⟨e,List.mem_filter.2 ⟨by simpa using he,hbi⟩,rfl⟩);simp only[decide_eq_true_eq] at h4;exact ihk e.on h4 (by omega)⟩
      rw[hr] at this;cases this
   obtain ⟨j,hj,hjf⟩:=hex;have:=key j hj;have hs:j < listed.size:=by rw[h.sz];omega
   simp[hs] at this hjf;rw[hjf] at this;cases this
  ·have hin:=hlow i hi;obtain ⟨h1,o,h2,h3⟩:=mem_ready.1 hi;have hil:l[i]? =some o:=by simpa using h2
   have hlt:i < l.length:=by omega
   have hs:i < listed.size:=by rw[h.sz];exact hlt
   have hit:(l.take n)[i]? =some o:=by rw[List.getElem?_take,if_pos hin];exact hil
   have hc2:(List.range n).countP (fun j=> !(listed.setIfInBounds i true).getD j true)=c:=by
    have e:(List.range n).countP (fun i=> !listed.getD i true)=(List.range n).countP (fun j=> !(listed.setIfInBounds i true).getD j true)+1:=by
     have hfun:∀j,(!listed.getD j true)=((!(listed.setIfInBounds i true).getD j true) || (j==i)):=by
      intro j;by_cases e:i=j
      ·subst e;have hh:listed.getD i true=false:=by simpa using h1
       simp only[beq_self_eq_true,Bool.or_true,hh,Bool.not_false]
      ·rw[getD_set_ne true e];have:(j==i)=false:=by simp;omega
       rw[this,Bool.or_false]
     have hsep:∀(L:List Nat),L.Nodup→i∈L→L.countP (fun j=> !listed.getD j true)=L.countP (fun j=> !(listed.setIfInBounds i true).getD j true)+1:=by
      intro L hnd hmem;induction L with
      | nil=> cases hmem
      | cons x L ihL=>
       obtain ⟨hx,hnd2⟩:=List.nodup_cons.1 hnd;rw[List.countP_cons,List.countP_cons];by_cases hxi:x=i
       ·subst hxi;have hh:listed.getD x true=false:=by simpa using h1
        have h2':(listed.setIfInBounds x true).getD x true=true:=by simp[hs]
        have hrest:L.countP (fun j=> !listed.getD j true)=L.countP (fun j=> !(listed.setIfInBounds x true).getD j true):=by apply List.countP_congr;intro j hj;rw[getD_set_ne true (show x≠j from fun e=> hx (e▸hj))]
        rw[hrest,hh,h2'];simp
       ·have hmem2:i∈L:=by rcases List.mem_cons.1 hmem with e | e;exact absurd e.symm hxi;exact e
        rw[ihL hnd2 hmem2,getD_set_ne true (show i≠x from fun e=> hxi e.symm)];omega
     exact hsep _ List.nodup_range (List.mem_range.2 hin)
    omega
   have sp:=spec i o hit a w h.j.I (fun t ht'=> eval_congr (h.j.old t (fun j o' hj _=> ht' o' (List.mem_of_getElem? hj)))) (fun j o' d hj hon hd=> by
    have hjn:j < n:=by have:=(List.getElem?_eq_some_iff.1 hj).1;rw[List.length_take] at this;omega
    obtain ⟨e,he,rfl⟩:=List.mem_map.1 hon;obtain ⟨he1,he2⟩:=List.mem_filter.1 he;exact h.j.new _ o' d hj (by rw[take_getD _ _ _ _ hjn];exact h3 e (by simpa using he1) he2) hd)
   rw[wanted_take hn hg (List.mem_of_getElem? hit)] at sp;have hnext:∀(v:Value) (w':World),Ext w w'→Φ i v w'→RT l n w0 Φ a0 (listed.setIfInBounds i true) (a.put o.dst v) w':=fun v w' hu hv=>
    ⟨by rw[take_set];exact h.j.step hm ho hit hu hv,by simpa using h.sz,fun k hk hkl=> by rw[getD_set_ne false (by omega)];exact h.lo k hk hkl,fun k ok hk hl j hj=> by
     rw[getD_set _ _ _ hs] at hl⊢;split
     ·rfl
     ·split at hl
      ·rename_i e;subst e;rw[hil] at hk;cases hk
       obtain ⟨e,he,rfl⟩:=List.mem_map.1 hj;obtain ⟨he1,he2⟩:=List.mem_filter.1 he;exact h3 e (by simpa using he1) he2
      ·exact h.dc k ok hk hl j hj⟩
   unfold wpOp;simp only[h2];split
   ·rename_i hw;rw[if_pos hw] at sp;left;unfold Oper.wp;generalize (execOp a.eval o).run P w=r at sp⊢;cases r with
    | ok nx w'=>
     cases nx <;> simp only[OutRes] at sp <;> simp only[Oper.upon]
     case value u=> exact ih _ _ _ (hnext _ _ sp.1 sp.2) hc2
     case enter f args=> exact sp.mono fun e w'' ⟨v,he,h4,h5⟩=> by subst he;exact ih _ _ _ (hnext _ _ h4 h5) hc2
    | halt x w'=> simp only[OutRes] at sp
   ·rename_i hw;rw[if_neg hw] at sp;exact ih _ _ _ (hnext _ _ (Upd.refl _ _) sp) hc2
end
section
variable {P:Program}
theorem tail_low{l:List Oper}{n:Nat}{listed:Array Bool}(hn:n≤l.length)(ht:tailB l n=true)(hs:listed.size=l.length)(hdc:∀i o,l[i]? =some o→listed.getD i false=true→∀j∈afterOn o,listed.getD j false=true)
 (hex:∃i,i < n∧listed.getD i true=false):∀i,i∈Region.ready .any l.toArray listed→i < n:=by
 intro i hi;obtain ⟨h1,o,h2,h3⟩:=mem_ready.1 hi;have hil:l[i]? =some o:=by simpa using h2
 have hlt:i < l.length:=(List.getElem?_eq_some_iff.1 hil).1;apply Classical.byContradiction;intro hni;have hb1:=List.all_eq_true.1 ht i (List.mem_range.2 hlt);simp only[hil,Bool.or_eq_true,decide_eq_true_eq] at hb1;have hb2:=hb1.resolve_left hni;obtain ⟨j,hj,hjf⟩:=hex;have hb3:=List.all_eq_true.1 hb2 j (List.mem_range.2 hj);have:=sweep_listed (l:=l) (p:=fun j=> listed.getD j false=true) hdc n (afterOn o) (fun k hk=> by obtain ⟨e,he,rfl⟩:=List.mem_map.1 hk;obtain ⟨he1,he2⟩:=List.mem_filter.1 he;exact h3 e (by simpa using he1) he2) j (by simpa using hb3)
 have hs:j < listed.size:=by omega
 simp[hs] at this hjf;rw[hjf] at this;cases this
theorem any_of_quiet{l:List Oper}{n:Nat}{C:World→Prop}{Qh:Act→Prop}{Q:Exit→Act→World→Prop}(hln:l.length=n+1)(hb:backB (l.take n)=true)(hg:guardB (l.take n)=true)(ht:tailB l n=true)
 (hQ:∀listed a w,C w→Qh a→listed.size=l.length→(∀i,i < n→listed.getD i false=true)→listed.getD n false=false→wpAny P .any l.toArray Q 1 listed a w):
 ∀(c:Nat) (listed:Array Bool) (a:Act) (w:World),C w→listed.size=l.length→listed.getD n false=false→(∀i o,l[i]? =some o→listed.getD i false=true→∀j∈afterOn o,listed.getD j false=true)→
  (List.range n).countP (fun i=> !listed.getD i true)=c→wpAnyQ P .any (l.take n).toArray C Qh c ((listed.toList.take n).toArray) a→wpAny P .any l.toArray Q (c+1) listed a w:=by
 have htl:(l.take n).length=n:=by rw[List.length_take];omega
 have hts:∀listed:Array Bool,listed.size=l.length→((listed.toList.take n).toArray).size=(l.take n).length:=fun listed h=> by rw[htl];simp;omega
 intro c;induction c with
 | zero=>
  intro listed a w hC hs hlo hdc hc h;rw[Nat.zero_add];refine hQ listed a w hC h.2 hs (fun i hi=> ?_) hlo;have:=all_listed (hts listed hs) hb h.1 i (by omega);rwa [take_getD _ _ _ _ hi] at this
 | succ c ih=>
  intro listed a w hC hs hlo hdc hc h;have hex:∃i,i < n∧listed.getD i true=false:=by
   have:0 < (List.range n).countP (fun i=> !listed.getD i true):=by omega
   obtain ⟨i,hi,h1⟩:=List.countP_pos_iff.1 this;exact ⟨i,List.mem_range.1 hi,by simpa using h1⟩
  have hlow:=tail_low (by omega) ht hs hdc hex;have hready:∀i,i∈Region.ready .any l.toArray listed→i∈Region.ready .any (l.take n).toArray ((listed.toList.take n).toArray):=fun i hi=> by
   have hin:=hlow i hi;obtain ⟨h1,o,h2,h3⟩:=mem_ready.1 hi;refine mem_ready.2 ⟨by rw[take_getD _ _ _ _ hin];exact h1,o,by simpa[List.getElem?_take,hin] using h2,fun e he hbi=> ?_⟩;have hoi:(l.take n)[i]? =some o:=by rw[List.getElem?_take,if_pos hin];simpa using h2
   have hb1:=List.all_eq_true.1 hb i (List.mem_range.2 (by omega));simp only[hoi] at hb1;have hb2:=List.all_eq_true.1 hb1 e.on (List.mem_map.2 ⟨e,List.mem_filter.2 ⟨by simpa using he,hbi⟩,rfl⟩);simp only[decide_eq_true_eq] at hb2;rw[take_getD _ _ _ _ (by omega)];exact h3 e he hbi
  rw[show c+1+1=(c+1)+1 by omega];refine ⟨fun hr=> ?_,fun i hi=> ?_⟩
  ·exfalso;have hr2:Region.ready .any (l.take n).toArray ((listed.toList.take n).toArray)= []:=by
    apply Classical.byContradiction;intro hne;obtain ⟨i,t,hit⟩:=List.exists_cons_of_ne_nil hne;have hi:i∈Region.ready .any (l.take n).toArray ((listed.toList.take n).toArray):=by rw[hit];simp
    obtain ⟨h1,o,h2,h3⟩:=mem_ready.1 hi;have hin:i < n:=by have:=(List.getElem?_eq_some_iff.1 (show (l.take n)[i]? =some o by simpa using h2)).1;omega
    have hoi:(l.take n)[i]? =some o:=by simpa using h2
    have:i∈Region.ready .any l.toArray listed:=mem_ready.2 ⟨by rw[take_getD _ _ _ _ hin] at h1;exact h1,o,by rw[List.getElem?_take,if_pos hin] at hoi;simpa using hoi,fun e he hbi=> by have hb1:=List.all_eq_true.1 hb i (List.mem_range.2 (by omega));simp only[hoi] at hb1;have hb2:=List.all_eq_true.1 hb1 e.on (List.mem_map.2 ⟨e,List.mem_filter.2 ⟨by simpa using he,hbi⟩,rfl⟩);simp only[decide_eq_true_eq] at hb2;have:=h3 e he hbi;rwa [take_getD _ _ _ _ (by omega)] at this⟩
    rw[hr] at this;cases this
   obtain ⟨j,hj,hjf⟩:=hex;have:=all_listed (hts listed hs) hb hr2 j (by omega);rw[take_getD _ _ _ _ hj] at this;have hs2:j < listed.size:=by omega
   simp[hs2] at this hjf;rw[hjf] at this;cases this
  ·have hin:=hlow i hi;have hq:=h.2 i (hready i hi);obtain ⟨h1,o,h2,h3⟩:=mem_ready.1 hi;have hil:l[i]? =some o:=by simpa using h2
   have hit:(l.take n)[i]? =some o:=by rw[List.getElem?_take,if_pos hin];exact hil
   have hlt:i < l.length:=by omega
   have hs1:i < listed.size:=by omega
   have hnext:∀a' w',C w'→wpAnyQ P .any (l.take n).toArray C Qh c (((listed.toList.take n).toArray).setIfInBounds i true) a'→wpAny P .any l.toArray Q (c+1) (listed.setIfInBounds i true) a' w':=fun a' w' hC' h'=> by
    refine ih _ _ _ hC' (by simpa using hs) (by rw[getD_set_ne false (by omega)];exact hlo) (fun k ok hk hl j hj=> ?_) ?_ (by rw[take_set];exact h')
    ·rw[getD_set _ _ _ hs1] at hl⊢;split
     ·rfl
     ·split at hl
      ·rename_i e;subst e;rw[hil] at hk;cases hk
       obtain ⟨e,he,rfl⟩:=List.mem_map.1 hj;obtain ⟨he1,he2⟩:=List.mem_filter.1 he;exact h3 e (by simpa using he1) he2
      ·exact hdc k ok hk hl j hj
    ·have hsep:∀(L:List Nat),L.Nodup→i∈L→L.countP (fun j=> !listed.getD j true)=L.countP (fun j=> !(listed.setIfInBounds i true).getD j true)+1:=by
      intro L hnd hmem;induction L with
      | nil=> cases hmem
      | cons x L ihL=>
       obtain ⟨hx,hnd2⟩:=List.nodup_cons.1 hnd;rw[List.countP_cons,List.countP_cons];by_cases hxi:x=i
       ·subst hxi;have hh:listed.getD x true=false:=by simpa using h1
        have h2':(listed.setIfInBounds x true).getD x true=true:=by simp[hs1]
        have hrest:L.countP (fun j=> !listed.getD j true)=L.countP (fun j=> !(listed.setIfInBounds x true).getD j true):=by apply List.countP_congr;intro j hj;rw[getD_set_ne true (show x≠j from fun e=> hx (e▸hj))]
        rw[hrest,hh,h2'];simp
       ·have hmem2:i∈L:=by rcases List.mem_cons.1 hmem with e | e;exact absurd e.symm hxi;exact e
        rw[ihL hnd2 hmem2,getD_set_ne true (show i≠x from fun e=> hxi e.symm)];omega
     have:=hsep (List.range n) List.nodup_range (List.mem_range.2 hin);omega
   unfold qOp at hq;simp only[List.getElem?_toArray,hit] at hq;rw[wanted_take (by omega) hg (List.mem_of_getElem? hit)] at hq;unfold wpOp;simp only[h2];split
   ·rename_i hw;rw[if_pos hw] at hq;exact .inl (Oper.wp_of_quiet hC (fun a' w' hw' hk=> hnext a' w' hw' hk) hq)
   ·rename_i hw;rw[if_neg hw] at hq;exact hnext _ _ hC hq
theorem region_quiet_tail{id:Nat}{Q:Exit→Act→World→Prop}{a:Act}{w:World}{l:List Oper}(n:Nat)(C:World→Prop)(hmix:P.follows .mixedOrders=true)(hln:(l.length==n+1)=true)(hB:Region.lexB .any (l.take n).toArray=true)
 (hb:backB l=true) (hg:guardB (l.take n)=true) (ht:tailB l n=true) (hC:C w.drew)
 (h:wpQuiet P (l.take n).toArray C (fun a'=> ∀w',C w'→wpList P l.toArray Q (l.drop n) a' w') (l.take n) a):(Code.region id l.toArray true).wp P Q a w:=by
 have hln:l.length=n+1:=by simpa using hln
 have htl:(l.take n).length=n:=by rw[List.length_take];omega
 have hb':backB (l.take n)=true:=by
  refine List.all_eq_true.2 (fun i hi=> ?_);have hin:i < n:=by have:=List.mem_range.1 hi;omega
  have:=List.all_eq_true.1 hb i (List.mem_range.2 (by omega));rw[List.getElem?_take,if_pos hin];exact this
 simp only[Region.lexB,Bool.and_eq_true] at hB;have hq:=wpAnyQ_lex (md:= .any) hB.1 (l.take n) 0 (Array.replicate n false) a (by simp) (by have:=hB.2;simpa[htl,hln] using this) h;refine wp_region_any hmix ?_;have rep:∀i,(Array.replicate l.toArray.size false).getD i false=false:=fun i=> by rw[Array.getD_eq_getD_getElem?,Array.getElem?_replicate];split <;> rfl
 have main:=any_of_quiet (P:=P) (C:=C) (Qh:=fun a'=> ∀w',C w'→wpList P l.toArray Q (l.drop n) a' w') (Q:=Q) hln hb' hg ht ?_ n (Array.replicate l.toArray.size false) a w.drew hC (by simp) (rep n) (fun i o _ hl=> by rw[rep] at hl;cases hl) ?_ ?_
 ·rw[show n+1=l.toArray.size by simp;omega] at main;exact main
 ·intro listed a' w' hC' hk hs hall hlo;have hon:l[n]? =some (l[n]'(by omega)):=List.getElem?_eq_getElem (by omega);have hdrop:l.drop n= [l[n]'(by omega)]:=by rw[List.drop_eq_getElem_cons (by omega),List.drop_of_length_le (by omega)]
  have hk2:=hk w' hC';rw[hdrop] at hk2;clear hk;generalize l[n]'(by omega)=o at hon hk2 hdrop;have hns:n < listed.size:=by omega
  have hmem:n∈Region.ready .any l.toArray listed:=mem_ready.2 ⟨by simp[hns] at hlo⊢;exact hlo,o,by simpa using hon,fun e he hbi=> by have hb1:=List.all_eq_true.1 hb n (List.mem_range.2 (by omega));simp only[hon] at hb1;have hb2:=List.all_eq_true.1 hb1 e.on (List.mem_map.2 ⟨e,List.mem_filter.2 ⟨by simpa using he,hbi⟩,rfl⟩);simp only[decide_eq_true_eq] at hb2;exact hall e.on hb2⟩
  have honly:∀i,i∈Region.ready .any l.toArray listed→i=n:=fun i hi=> by
   obtain ⟨h1,o',h2,h3⟩:=mem_ready.1 hi;have hlt:i < l.length:=(List.getElem?_eq_some_iff.1 (show l[i]? =some o' by simpa using h2)).1;rcases Nat.lt_or_ge i n with h4 | h4
   ·have:=hall i h4;have hs1:i < listed.size:=by omega
    simp[hs1] at this h1;rw[h1] at this;cases this
   ·omega
  have hend:Region.ready .any l.toArray (listed.setIfInBounds n true)= []:=by
   apply Classical.byContradiction;intro hne;obtain ⟨i,t,hit⟩:=List.exists_cons_of_ne_nil hne;have hi:i∈Region.ready .any l.toArray (listed.setIfInBounds n true):=by rw[hit];simp
   obtain ⟨h1,o',h2,_⟩:=mem_ready.1 hi;have hlt:i < l.length:=(List.getElem?_eq_some_iff.1 (show l[i]? =some o' by simpa using h2)).1;by_cases hni:n=i
   ·subst hni;simp[hns] at h1
   ·rw[getD_set_ne true hni] at h1;have:=hall i (by omega);have hs1:i < listed.size:=by omega
    simp[hs1] at this h1;rw[h1] at this;cases this
  refine ⟨fun hr=> (by rw[hr] at hmem;cases hmem),fun i hi=> ?_⟩;obtain rfl:=honly i hi;unfold wpList at hk2;unfold wpOp;simp only[List.getElem?_toArray,hon];split
  ·rename_i hw;rw[if_pos hw] at hk2;exact hk2.imp (Oper.wp_mono (fun a w h=> ⟨hend,h⟩)) (fun h=> h)
  ·rename_i hw;rw[if_neg hw] at hk2;exact ⟨hend,hk2⟩
 ·have:∀i∈List.range n,(!(Array.replicate l.toArray.size false).getD i true)=true:=fun i hi=> by have hin:=List.mem_range.1 hi;rw[Array.getD_eq_getD_getElem?,Array.getElem?_replicate,if_pos (by simp;omega)];rfl
  rw[List.countP_eq_length.2 this,List.length_range]
 ·have e:(((Array.replicate l.toArray.size false).toList.take n).toArray)=Array.replicate n false:=by simp[List.take_replicate,hln]
  rw[e,←htl];rw[htl];rw[htl] at hq;exact hq
end
def by8(l:List UInt8)(i:Nat):Int:=((l.getD i 0).toNat:Int)
theorem by8_wrap(l:List UInt8)(i:Nat):IntKind.u32.wrap (by8 l i)=by8 l i:=by unfold by8;generalize l.getD i 0=b;have h:=b.toNat_lt;simp[IntKind.wrap,IntKind.bits,IntKind.signed];omega
def wordI(x y z t:Int):Int:=bits .or .u32 (bits .or .u32 (bits .or .u32 (x*16777216 % 4294967296) (y*65536 % 4294967296)) (z*256 % 4294967296)) t
def wordB(l:List UInt8)(t:Nat):Int:=wordI (by8 l (4*t)) (by8 l (4*t+1)) (by8 l (4*t+2)) (by8 l (4*t+3))
def u32C(xs:List Int):List Value:=xs.map (Value.int .u32)
def wCells(l:List UInt8)(t:Nat):List Int:=(List.range t).map (wordB l)++List.replicate (64 - t) 0
theorem wCells_set(l:List UInt8)(k:Nat)(hk:k < 64):(wCells l k).set k (wordB l k)=wCells l (k+1):=by
 obtain ⟨m,hm⟩:∃m,64 - k=m+1:=⟨63 - k,by omega⟩;have h2:64 - (k+1)=m:=by omega
 unfold wCells;rw[hm,h2,List.range_succ,List.map_append,List.replicate_succ];rw[List.set_append,if_neg (by simp)];simp
theorem wBlk_set(l:List UInt8)(k:Nat)(hk:k < 64):(u32C (wCells l k)).toArray.setIfInBounds k (.int .u32 (wordB l k))=(u32C (wCells l (k+1))).toArray:=by rw[←wCells_set l k hk];simp[u32C,List.map_set]
def RowB(w:World)(bb bo:Nat)(l:List UInt8):Prop:=∀i,i < 64→w.cell? ⟨bb,bo+i,none⟩=some (.int .u8 (by8 l i))
theorem RowB.ext{w w':World}{bb bo:Nat}{l:List UInt8}(h:RowB w bb bo l)(u:Ext w w'):RowB w' bb bo l:=fun i hi=> u.cellv (h i hi)
def LoadRel(w:World)(q:Nat)(l:List UInt8)(iv:Value)(wr:World):Prop:=∃k:Nat,iv= .int .i64 k∧k≤16∧wr.heap[q]? =some (.cells (u32C (wCells l k)).toArray 435 (0,0))∧Ext w wr
def schedE(a x b y:Int):Int:=
 (a+bits .xor .u32 (bits .xor .u32 (turnI x 7) (turnI x 18)) (x / 8)+b+bits .xor .u32 (bits .xor .u32 (turnI y 17) (turnI y 19)) (y / 1024)) % 4294967296
def schedV(ws:List Int)(t:Nat):Int:=schedE (ws.getD (t - 16) 0) (ws.getD (t - 15) 0) (ws.getD (t - 7) 0) (ws.getD (t - 2) 0)
def schK(l:List UInt8):Nat→List Int
 | 0=> wCells l 16
 | j+1=> (schK l j).set (16+j) (schedV (schK l j) (16+j))
theorem schK_len(l:List UInt8)(j:Nat):(schK l j).length=64:=by
 induction j with
 | zero=> simp[schK,wCells]
 | succ j ih=> simp[schK,ih]
def schT(l:List UInt8)(t:Nat):List Int:=schK l (t - 16)
def notI(x:Int):Int:=bits .xor .u32 IntKind.u32.max x
def shaTab:List Int:= [1116352408,1899447441,3049323471,3921009573,961987163,1508970993,2453635748,2870763221,3624381080,310598401,607225278,1426881987,1925078388,2162078206,2614888103,3248222580,3835390401,4022224774,264347078,604807628,770255983,1249150122,1555081692,1996064986,2554220882,2821834349,2952996808,3210313671,3336571891,3584528711,113926993,338241895,666307205,773529912,1294757372,1396182291,1695183700,1986661051,2177026350,2456956037,2730485921,2820302411,3259730800,3345764771,3516065817,3600352804,4094571909,275423344,430227734,506948616,659060556,883997877,958139571,1322822218,1537002063,1747873779,1955562222,2024104815,2227730452,2361852424,2428436474,2756734187,3204031479,3329325298]
def ShaTab(w:World):Prop:=∀k,k < 64→w.cell? ⟨21,k,none⟩=some (.int .u32 (shaTab.getD k 0))
theorem ShaTab.ext{w w':World}(h:ShaTab w)(u:Ext w w'):ShaTab w':=fun k hk=> u.cellv (h k hk)
structure V8 where
 a:Int
 b:Int
 c:Int
 d:Int
 e:Int
 f:Int
 g:Int
 h:Int
def V8.l(v:V8):List Int:= [v.a,v.b,v.c,v.d,v.e,v.f,v.g,v.h]
def V8.of(l:List Int):V8:=⟨l.getD 0 0,l.getD 1 0,l.getD 2 0,l.getD 3 0,l.getD 4 0,l.getD 5 0,l.getD 6 0,l.getD 7 0⟩
def rndX(v:V8)(kt wt:Int):Int:=
 (v.h+bits .xor .u32 (bits .xor .u32 (turnI v.e 6) (turnI v.e 11)) (turnI v.e 25)+bits .xor .u32 (bits .and .u32 v.e v.f) (bits .and .u32 (notI v.e) v.g)+kt+wt) % 4294967296
def rndY(v:V8):Int:=
 (bits .xor .u32 (bits .xor .u32 (turnI v.a 2) (turnI v.a 13)) (turnI v.a 22)+bits .xor .u32 (bits .xor .u32 (bits .and .u32 v.a v.b) (bits .and .u32 v.a v.c)) (bits .and .u32 v.b v.c)) % 4294967296
def rndV(v:V8)(kt wt:Int):V8:=⟨(rndX v kt wt+rndY v) % 4294967296,v.a,v.b,v.c,(v.d+rndX v kt wt) % 4294967296,v.e,v.f,v.g⟩
def rndK(v:V8)(ws:List Int):Nat→V8
 | 0=> v
 | k+1=> rndV (rndK v ws k) (shaTab.getD k 0) (ws.getD k 0)
def addL(hs vs:List Int)(k:Nat):List Int:=(List.range 8).map (fun i=> if i < k then (hs.getD i 0+vs.getD i 0) % 4294967296 else hs.getD i 0)
theorem addL_len(hs vs:List Int)(k:Nat):(addL hs vs k).length=8:=by simp[addL]
theorem addL_get(hs vs:List Int)(k i:Nat)(hi:i < 8):(addL hs vs k).getD i 0=if i < k then (hs.getD i 0+vs.getD i 0) % 4294967296 else hs.getD i 0:=by simp[addL,List.getD_eq_getElem?_getD,hi]
theorem addL_zero(hs vs:List Int)(h:hs.length=8):addL hs vs 0=hs:=by
 apply List.ext_getElem?;intro i;by_cases hi:i < 8
 ·simp[addL,hi,List.getD_eq_getElem?_getD,h]
 ·rw[List.getElem?_eq_none (by rw[addL_len];omega),List.getElem?_eq_none (by omega)]
theorem addL_set(hs vs:List Int)(k:Nat)(hk:k < 8):(u32C (addL hs vs k)).toArray.setIfInBounds k (.int .u32 ((hs.getD k 0+vs.getD k 0) % 4294967296))=(u32C (addL hs vs (k+1))).toArray:=by
 rw[List.setIfInBounds_toArray];congr 1;unfold u32C;rw[←List.map_set];congr 1;apply List.ext_getElem?;intro i;rw[List.getElem?_set,addL_len];by_cases hi:i < 8
 ·by_cases hki:k=i
  ·subst hki;simp[addL,hi]
  ·rw[if_neg hki];have:(i < k+1)=(i < k):=by simp;omega
   simp[addL,hi,this]
 ·rw[if_neg (by omega),List.getElem?_eq_none (by rw[addL_len];omega),List.getElem?_eq_none (by rw[addL_len];omega)]
def blockP(hs:List Int)(l:List UInt8):List Int:=addL hs (rndK (V8.of hs) (schT l 64) 64).l 8
theorem schT_len(l:List UInt8)(t:Nat):(schT l t).length=64:=schK_len l _
theorem schT_set(l:List UInt8)(t:Nat)(h:16≤t):(u32C (schT l t)).toArray.setIfInBounds t (.int .u32 (schedV (schT l t) t))=(u32C (schT l (t+1))).toArray:=by obtain ⟨j,rfl⟩:∃j,t=16+j:=⟨t - 16,by omega⟩;unfold schT;rw[show 16+j+1 - 16=j+1 by omega,show 16+j - 16=j by omega,schK];simp[u32C,List.map_set]
theorem u32_cell{w:World}{q:Nat}{ws:List Int}(h:w.heap[q]? =some (.cells (u32C ws).toArray t (0,0)))(i:Nat)(hi:i < ws.length):w.cell? ⟨q,i,none⟩=some (.int .u32 (ws.getD i 0)):=by rw[cell_of_blk h];simp[u32C,List.getD_eq_getElem?_getD,hi]
def RndRel(w:World)(q:Nat)(ws:List Int)(v0:V8)(a b c d e f g h iv:Value)(wr:World):Prop:=∃k:Nat,iv= .int .i64 k∧k≤64∧a= .int .u32 (rndK v0 ws k).a∧b= .int .u32 (rndK v0 ws k).b∧c= .int .u32 (rndK v0 ws k).c∧d= .int .u32 (rndK v0 ws k).d∧
 e= .int .u32 (rndK v0 ws k).e∧f= .int .u32 (rndK v0 ws k).f∧g= .int .u32 (rndK v0 ws k).g∧h= .int .u32 (rndK v0 ws k).h∧wr.heap[q]? =some (.cells (u32C ws).toArray 435 (0,0))∧Ext w wr
def AddRel(w:World)(hb:Nat)(hs vs:List Int)(iv:Value)(wr:World):Prop:=∃k:Nat,iv= .int .i64 k∧k≤8∧wr.heap[hb]? =some (.cells (u32C (addL hs vs k)).toArray 405 (0,0))∧Upd (one hb) w wr
def SchRel(w:World)(q:Nat)(l:List UInt8)(iv:Value)(wr:World):Prop:=∃t:Nat,iv= .int .i64 t∧16≤t∧t≤64∧wr.heap[q]? =some (.cells (u32C (schT l t)).toArray 435 (0,0))∧Ext w wr
theorem run_index_u32{P:Program}{e:TypeId}{n:Nat}(hu:P.underlying t=some (.array n e)){d:TypeDesc}(hue:P.underlying e=some d)(hd:aggD d=false)(he:(P.info? e).map (·.size)=some 1)(vs:List Int)(hl:vs.length=n)(k:Nat)(hk:k < n)(w:World):
 (Instr.index t (.agg (u32C vs).toArray) (.int .i64 k)).run P w= .ok (.int .u32 (vs.getD k 0)) w:=by
 have hagg:(isAgg e).run P w= .ok false w:=by unfold isAgg;rw[Sem.run_bind,run_underlying hue w];cases d <;> simp_all [aggD]
 cases hq:P.info? e with
 | none=> simp[hq] at he
 | some i=>
  have his:i.size=1:=by simpa[hq] using he
  have hk2:(0:Int)≤(k:Int)∧(k:Int) < n:=by omega
  have hkl:k < vs.length:=by omega
  simp[Instr.index,run_underlying hu,asIntOf,sizeOf,typeInfo,hq,his,hk2,hk,u32C,hkl,List.getD_eq_getElem?_getD,part,Sem.run_bind,hagg]
theorem block_any(w:World)(hb bb bo cap:Nat)(hs:List Int)(l:List UInt8)(hh:w.heap[hb]? =some (.cells (u32C hs).toArray 405 (0,0)))(h8:hs.length=8)(hl:RowB w bb bo l)(htab:ShaTab w):
 Calls Tryz.prog 273 #[.pointer (some ⟨hb,0,none⟩),.slice (some ⟨bb,bo,none⟩) 64 cap] w fun e w'=> e= .returned (.tuple #[])∧w'.heap[hb]? =some (.cells (u32C (blockP hs l)).toArray 405 (0,0))∧Upd (one hb) w w':=by
 have HH:=ZA hh;have H8:=ZA h8;have HL:=ZA hl;have HT:=ZA htab;clear hh h8 hl htab;have HN:=ZA (show w.heap[w.heap.size]? =none by simp);have HW0:=ZA (show (w.alloc (.cells (u32C (wCells l 0)).toArray 435)).heap[w.heap.size]? =some (.cells (u32C (wCells l 0)).toArray 435 (0,0)) from blk_alloc w _);have HU0:=ZA (show Ext w (w.alloc (.cells (u32C (wCells l 0)).toArray 435)) from (Upd.refl none' w).alloc _);go_enter Tryz.func273,Tryz.ntmps273;go_wp2_with fail;go_loopw [22] (fun iv wr=> LoadRel w w.heap.size l iv wr) (fun iv _=> 16 - (RowKit.intOf iv).toNat);case atStart=> exact ⟨0,rfl,by omega,HW0.o,HU0.o⟩
 case round=>
  obtain ⟨k,rfl,hk,hq,hu⟩:=hrel;have HQ:=ZA hq;have HU:=ZA hu;have HB:=ZA (HL.o.ext hu);clear hq hu;by_cases hlt:k < 16
  ·have hki:(k:Int) < 16:=by omega
   have c0:=HB.o (4*k) (by omega);have c1:=HB.o (4*k+1) (by omega);have c2:=HB.o (4*k+2) (by omega);have c3:=HB.o (4*k+3) (by omega);have m0:IntKind.i64.wrap (4*(k:Int))=((4*k:Nat):Int):=by simp[IntKind.wrap,IntKind.bits,IntKind.signed];omega
   have m1:IntKind.i64.wrap (4*(k:Int)+1)=4*k+1:=by simp[IntKind.wrap,IntKind.bits,IntKind.signed];omega
   have m2:IntKind.i64.wrap (4*(k:Int)+2)=4*k+2:=by simp[IntKind.wrap,IntKind.bits,IntKind.signed];omega
   have m3:IntKind.i64.wrap (4*(k:Int)+3)=4*k+3:=by simp[IntKind.wrap,IntKind.bits,IntKind.signed];omega
   have y0:IntKind.u32.wrap (by8 l (4*k))=by8 l (4*k):=by8_wrap l _;have y1:IntKind.u32.wrap (by8 l (4*k+1))=by8 l (4*k+1):=by8_wrap l _;have y2:IntKind.u32.wrap (by8 l (4*k+2))=by8 l (4*k+2):=by8_wrap l _;have y3:IntKind.u32.wrap (by8 l (4*k+3))=by8 l (4*k+3):=by8_wrap l _;have z0:0≤4*(k:Int):=by omega
   have z1:0≤4*(k:Int)+1:=by omega
   have z2:0≤4*(k:Int)+2:=by omega
   have z3:0≤4*(k:Int)+3:=by omega
   have t0:(4*(k:Int)).toNat=4*k:=by omega
   have t1:(4*(k:Int)+1).toNat=4*k+1:=by omega
   have t2:(4*(k:Int)+2).toNat=4*k+2:=by omega
   have t3:(4*(k:Int)+3).toNat=4*k+3:=by omega
   have i0:(4*(k:Int)) < 64:=by omega
   have i1:(4*(k:Int))+1 < 64:=by omega
   have i2:(4*(k:Int))+2 < 64:=by omega
   have i3:(4*(k:Int))+3 < 64:=by omega
   have i4:(k:Int) < 64:=by omega
   have hsz:(wCells l k).length=64:=by simp[wCells];omega
   have q0:wr.cell? ⟨w.heap.size,k,none⟩=some (.int .u32 ((wCells l k).getD k 0)):=by rw[cell_of_blk HQ.o];simp[u32C,hsz,show k < 64 by omega,List.getD_eq_getElem?_getD]
   have qf:=free_of_blk HQ.o k;have hsx:=ZA hsz;clear hsz;generalize (wCells l k).getD k 0=old at q0;go_wp2_with fail;go_still_tail 35,(by kernel_rfl);go_wp2_with fail;repeat still_step
   refine ⟨⟨k+1,by simp,by omega,?_,?_⟩,by simp[RowKit.intOf];omega⟩
   ·have h:=blk_set HQ.o k (.int .u32 (wordB l k));rw[wBlk_set l k (by omega)] at h;exact h
   ·exact (HU.o.setCell (p:=⟨w.heap.size,k,none⟩) (.inl (Nat.le_refl _)) _).drew
  ·have HK:=ZA (show k=16 by omega);have hki:¬(k:Int) < 16:=by omega
   clear hlt hk;go_wp2_with fail;obtain ⟨w1,hw1⟩:∃w1:World,w1=wr:=⟨_,rfl⟩;subst hw1;go_loopw [6] (fun iv wr=> SchRel w w.heap.size l iv wr) (fun iv _=> 64 - (RowKit.intOf iv).toNat);case atStart=> exact ⟨16,rfl,by omega,by omega,by have:=HQ.o;rw[HK.o] at this;exact this,HU.o⟩
   case round=>
    obtain ⟨t,rfl,ht0,ht1,hq,hu⟩:=hrel;have HQ:=ZA hq;have HU:=ZA hu;clear hq hu;by_cases hlt:t < 64
    ·have hti:(t:Int) < 64:=by omega
     have hl:=schT_len l t;have ca:=u32_cell HQ.o (t - 16) (by omega);have cx:=u32_cell HQ.o (t - 15) (by omega);have cb:=u32_cell HQ.o (t - 7) (by omega);have cy:=u32_cell HQ.o (t - 2) (by omega);have co:=u32_cell HQ.o t (by omega);have cf:=free_of_blk HQ.o t;have HS:=ZA (show schedV (schT l t) t=schedE ((schT l t).getD (t - 16) 0) ((schT l t).getD (t - 15) 0) ((schT l t).getD (t - 7) 0) ((schT l t).getD (t - 2) 0) from rfl);generalize (schT l t).getD (t - 16) 0=a at ca HS;generalize (schT l t).getD (t - 15) 0=x at cx HS;generalize (schT l t).getD (t - 7) 0=b at cb HS;generalize (schT l t).getD (t - 2) 0=y at cy HS;generalize (schT l t).getD t 0=old at co;have m1:IntKind.i64.wrap ((t:Int) - 16)=(t:Int) - 16:=IntWalk.i64_in _ (by omega);have m2:IntKind.i64.wrap ((t:Int) - 15)=(t:Int) - 15:=IntWalk.i64_in _ (by omega);have m3:IntKind.i64.wrap ((t:Int) - 7)=(t:Int) - 7:=IntWalk.i64_in _ (by omega);have m4:IntKind.i64.wrap ((t:Int) - 2)=(t:Int) - 2:=IntWalk.i64_in _ (by omega);have z1:(0:Int)≤(t:Int) - 16:=by omega
     have z2:(0:Int)≤(t:Int) - 15:=by omega
     have z3:(0:Int)≤(t:Int) - 7:=by omega
     have z4:(0:Int)≤(t:Int) - 2:=by omega
     have n1:((t:Int) - 16).toNat=t - 16:=by omega
     have n2:((t:Int) - 15).toNat=t - 15:=by omega
     have n3:((t:Int) - 7).toNat=t - 7:=by omega
     have n4:((t:Int) - 2).toNat=t - 2:=by omega
     have i1:(t:Int) - 16 < 64:=by omega
     have i2:(t:Int) - 15 < 64:=by omega
     have i3:(t:Int) - 7 < 64:=by omega
     have i4:(t:Int) - 2 < 64:=by omega
     have hls:=ZA hl;clear hl;go_wp2_with fail;go_quiet (fail);go_wp2_with fail;refine region_quiet_tail 29 (fun w'=> ∃n,w'=wr.drewN n) (by kernel_rfl) (by kernel_rfl) (by kernel_rfl) (by kernel_rfl) (by kernel_rfl) (by kernel_rfl) ⟨nq+1,rfl⟩ ?_;simp only[List.take_succ_cons,List.take_zero,List.drop_succ_cons,List.drop_zero];repeat (go_big_quiet_step ((first | (with_reducible exact turn7 _ _ _) | (with_reducible exact turn18 _ _ _) | (with_reducible exact turn17 _ _ _) | (with_reducible exact turn19 _ _ _))))
     refine wpQuiet_nil ?_;intro _ hw';obtain ⟨n2,hw''⟩:=hw';subst hw'';go_wp2_with fail;refine ⟨⟨t+1,by simp,by omega,by omega,?_,(HU.o.drewN n2).setCell (.inl (Nat.le_refl _)) _⟩,by simp[RowKit.intOf];omega⟩;have h:=blk_set (w:=wr.drewN n2) HQ.o t (.int .u32 (schedE a x b y));rw[show (u32C (schT l t)).toArray.setIfInBounds t (.int .u32 (schedE a x b y))=(u32C (schT l (t+1))).toArray from by rw[←HS.o,schT_set l t ht0]] at h;exact h
    ·have HT64:=ZA (show t=64 by omega);have hti:¬(t:Int) < 64:=by omega
     have HQ2:=ZA HQ.o;rw[HT64.o] at HQ2;have hh:=Ext.blk HU.o HH.o;have h0:=u32_cell hh 0 (by rw[H8.o];omega);have h1:=u32_cell hh 1 (by rw[H8.o];omega);have h2:=u32_cell hh 2 (by rw[H8.o];omega);have h3:=u32_cell hh 3 (by rw[H8.o];omega);have h4:=u32_cell hh 4 (by rw[H8.o];omega);have h5:=u32_cell hh 5 (by rw[H8.o];omega);have h6:=u32_cell hh 6 (by rw[H8.o];omega);have h7:=u32_cell hh 7 (by rw[H8.o];omega);clear hh hlt ht0 ht1;go_wp2_with fail;go_quiet (fail);go_wp2_with fail;obtain ⟨w2,hw2⟩:∃w2:World,w2=wr:=⟨_,rfl⟩;subst hw2;go_loopw [9,10,11,12,13,14,15,16,134] (fun a b c d e f g h iv wr=> RndRel w w.heap.size (schT l 64) (V8.of hs) a b c d e f g h iv wr) (fun _ _ _ _ _ _ _ _ iv _=> 64 - (RowKit.intOf iv).toNat);case atStart=> exact ⟨0,rfl,by omega,rfl,rfl,rfl,rfl,rfl,rfl,rfl,rfl,HQ2.o,HU.o.drewN _⟩
     case round=>
      obtain ⟨k,rfl,hk,rfl,rfl,rfl,rfl,rfl,rfl,rfl,rfl,hq,hu⟩:=hrel;have HQ:=ZA hq;have HU:=ZA hu;have HTB:=ZA (HT.o.ext hu);clear hq hu;by_cases hlt:k < 64
      ·have hki:(k:Int) < 64:=by omega
       have cw:=u32_cell HQ.o k (by rw[schT_len];omega);have ck:=HTB.o k hlt;have HV:=ZA (show rndK (V8.of hs) (schT l 64) (k+1)=rndV (rndK (V8.of hs) (schT l 64) k) (shaTab.getD k 0) ((schT l 64).getD k 0) from rfl);generalize (schT l 64).getD k 0=wt at cw HV;generalize shaTab.getD k 0=kt at ck HV;generalize rndK (V8.of hs) (schT l 64) k=v at*;obtain ⟨a,b,c,d,e,f,g,h⟩:=v;go_wp2_with fail;go_quiet ((first | (with_reducible exact turn6 _ _ _) | (with_reducible exact turn11 _ _ _) | (with_reducible exact turn25 _ _ _)));go_wp2_with fail
       (with_reducible refine (turn2 _ _ _).mono ?_)
       rintro e w3 ⟨rfl,m2,rfl⟩;go_wp2_with fail
       (with_reducible refine (turn13 _ _ _).mono ?_)
       rintro e w3 ⟨rfl,m3,rfl⟩;go_wp2_with fail
       (with_reducible refine (turn22 _ _ _).mono ?_)
       rintro e w3 ⟨rfl,m4,rfl⟩;go_wp2_with fail;go_roundw;case rel=>
        refine ⟨k+1,by simp,by omega,?_,?_,?_,?_,?_,?_,?_,?_,HQ.o,HU.o.drewN _⟩ <;> (rw[HV.o];rfl)
       case measure=> simp[RowKit.intOf];omega
      ·have HK:=ZA (show k=64 by omega);have hki:¬(k:Int) < 64:=by omega
       have HBLK:=ZA (show blockP hs l=addL hs (rndK (V8.of hs) (schT l 64) k).l 8 by rw[HK.o];rfl);have HH2:=ZA (Ext.blk HU.o HH.o);generalize rndK (V8.of hs) (schT l 64) k=v at*;clear hlt hk HTB;go_wp2_with fail;obtain ⟨w3,hw3⟩:∃w3:World,w3=wr:=⟨_,rfl⟩;subst hw3;go_loopw [206] (fun iv wr=> AddRel w hb hs v.l iv wr) (fun iv _=> 8 - (RowKit.intOf iv).toNat);case atStart=> exact ⟨0,rfl,by omega,by rw[addL_zero hs _ H8.o];exact HH2.o,HU.o.ext _⟩
       case round=>
        obtain ⟨k,rfl,hk,hq,hu⟩:=hrel;have HQ:=ZA hq;have HU:=ZA hu;clear hq hu;by_cases hlt:k < 8
        ·have hki:(k:Int) < 8:=by omega
         have ck:=u32_cell HQ.o k (by rw[addL_len];omega);rw[addL_get hs _ k k hlt,if_neg (by omega)] at ck;have fk:=free_of_blk HQ.o k;have hx:∀w,(Instr.index 405 (.agg #[.int .u32 v.a,.int .u32 v.b,.int .u32 v.c,.int .u32 v.d,.int .u32 v.e,.int .u32 v.f,.int .u32 v.g,.int .u32 v.h]) (.int .i64 k)).run Tryz.prog w= .ok (.int .u32 (v.l.getD k 0)) w:=fun w=> run_index_u32 Tryz.underlying405 Tryz.underlying404 rfl (by kernel_rfl) v.l rfl k hlt w;have HS:=ZA (addL_set hs v.l k hlt);generalize hs.getD k 0=p at ck HS;generalize v.l.getD k 0=q at hx HS;go_wp2_with fail;go_still_tail 9,(by kernel_rfl);go_wp2_with fail;repeat still_step
         refine ⟨⟨k+1,by simp,by omega,?_,(HU.o.setCell (p:=⟨hb,k,none⟩) (.inr rfl) _).drew⟩,by simp[RowKit.intOf];omega⟩;have h:=blk_set HQ.o k (.int .u32 ((p+q) % 4294967296));rw[HS.o] at h;exact h
        ·have HK8:=ZA (show k=8 by omega);have hki:¬(k:Int) < 8:=by omega
         go_wp2_with fail;go_end0;exact ⟨rfl,by rw[HBLK.o,←HK8.o];exact HQ.o,HU.o⟩
end Go.Proofs.YtjnjpgdoncbahaaGreatDoor
