/- Leaves come to a growth: its edges are stepE's. Plain law. Puts, each one unless one was refused; Append's closure by contract. A region that ends in operations that wait for all others; slots ahead told by values or lasting predicates (Typed3). Nothing of the program. Frames for the walk of Append: plain lemmas. -/
import Derived.Test.YtnkcfkjeeennmaaGreatDoorWrA
import Derived.Test.YtnkcfkjeeennmaaGreatDoorGrowP
import Derived.Test.YtnkcfkjeeennmaaGreatDoorShaU
import Derived.Test.YtnkcfkjeeennmaaGreatDoorTyped2
import Derived.Test.YtnkcfkjeeennmaaGreatDoorDec
namespace Go.Proofs.YtnkcfkjeeennmaaGreatDoor
open Go.RowKit Go.Lib
set_option maxRecDepth 20000
set_option maxHeartbeats 4000000
variable {G:GrP}{es:List (List HB)}{ev lv tv:Value}{r:StD×EV}{root:HB}{vs:List Value}
theorem list_ext{α:Type}(d:α){a b:List α}(hl:a.length=b.length)(h:∀k,a.getD k d=b.getD k d):a=b:=by refine List.ext_getElem hl fun i h1 h2=> ?_;have:=h i;rw[List.getD_eq_getElem?_getD,List.getD_eq_getElem?_getD,List.getElem?_eq_getElem h1,List.getElem?_eq_getElem h2] at this;exact this
def addP(n:Nat)(y:HB)(G:GrP):GrP:=pushes n (peaksE nodeH G.es) y G (ones n / 8+1)
def addsP:Nat→List HB→GrP→GrP
 | _,[],G=> G
 | n,y::ys,G=> addsP (n+1) ys (addP n y G)
theorem addsP_snoc:∀(ys:List HB) (n:Nat) (y:HB) (G:GrP),addsP n (ys++ [y]) G=addP (n+ys.length) y (addsP n ys G)
 | [],n,y,G=> rfl
 | z::ys,n,y,G=> by show addsP (n+1) (ys++ [y]) (addP n z G)=addP (n+(ys.length+1)) y (addsP (n+1) ys (addP n z G));rw[addsP_snoc,show n+1+ys.length=n+(ys.length+1) by omega]
theorem pushes_at(n:Nat)(y:HB)(G:GrP)(hf:fitsP n G.es):∀m,m≤lead G.es+1→
 (pushes n (peaksE nodeH G.es) y G m).es.length=max G.es.length m∧∀j,(pushes n (peaksE nodeH G.es) y G m).es.getD j []=if j < m then (if j < lead G.es then [] else G.es.getD j []++ [cE nodeH j G.es y]) else G.es.getD j []:=by
 have hs:=step_main nodeH G.es n y hf;intro m;induction m with
 | zero=>
  intro _;exact ⟨by simp[pushes],fun j=> by rw[if_neg (Nat.not_lt_zero _)];rfl⟩
 | succ m ih=>
  intro hm;obtain ⟨h1,h2⟩:=ih (by omega);have hx:cr nodeH (peaksE nodeH G.es) (8*m) y=cE nodeH m G.es y:=hs.2.2.2.2 m (by omega);have hg:(pushes n (peaksE nodeH G.es) y G m).es.getD m []=G.es.getD m []:=by rw[h2,if_neg (Nat.lt_irrefl _)]
  rw[pushes_succ,hx];generalize pushes n (peaksE nodeH G.es) y G m=P at*;have hpl:(padL P.es (m+1) []).length=max G.es.length (m+1):=by rw[padL_len,h1];omega
  have hml:m < (padL P.es (m+1) []).length:=by rw[hpl];omega
  unfold pushP;simp only[padL_getD,hg];by_cases hf2:(G.es.getD m []).length+1=256
  ·rw[if_pos hf2];have hlt:m < lead G.es:=by
    rcases Nat.lt_or_ge m (lead G.es) with h | h
    ·exact h
    ·exfalso;have he:m=lead G.es:=by omega
     exact lead_not G.es (by rw[←he];omega)
   refine ⟨by show ((padL P.es (m+1) []).set m []).length=_;rw[List.length_set,hpl],fun j=> ?_⟩;show ((padL P.es (m+1) []).set m []).getD j []=_;rw[getD_put _ _ _ _ _ hml,padL_getD];by_cases hj:j=m
   ·subst hj;rw[if_pos rfl,if_pos (by omega),if_pos hlt]
   ·rw[if_neg hj,h2];by_cases hj2:j < m
    ·rw[if_pos hj2,if_pos (show j < m+1 by omega)]
    ·rw[if_neg hj2,if_neg (show¬j < m+1 by omega)]
  ·rw[if_neg hf2];have hlt:¬m < lead G.es:=fun h=> hf2 (by rw[lead_full G.es m h]);refine ⟨by show ((padL P.es (m+1) []).set m _).length=_;rw[List.length_set,hpl],fun j=> ?_⟩;show ((padL P.es (m+1) []).set m (G.es.getD m []++ [cE nodeH m G.es y])).getD j []=_;rw[getD_put _ _ _ _ _ hml,padL_getD];by_cases hj:j=m
   ·subst hj;rw[if_pos rfl,if_pos (by omega),if_neg hlt]
   ·rw[if_neg hj,h2];by_cases hj2:j < m
    ·rw[if_pos hj2,if_pos (show j < m+1 by omega)]
    ·rw[if_neg hj2,if_neg (show¬j < m+1 by omega)]
theorem stepE_len(es:List (List HB))(h:HB):(stepE nodeH es h).length=max es.length (lead es+1):=by rw[stepE_eq,List.length_append,List.length_replicate,List.length_cons,List.length_drop];have:=lead_le es;omega
theorem addP_es(n:Nat)(y:HB)(G:GrP)(hf:fitsP n G.es):(addP n y G).es=stepE nodeH G.es y:=by
 have hs:=step_main nodeH G.es n y hf;have h:=pushes_at n y G hf (lead G.es+1) (Nat.le_refl _);unfold addP;rw[←hs.2.2.2.1];refine list_ext [] (by rw[h.1,stepE_len]) fun k=> ?_;rw[h.2,stepE_get];by_cases h1:k < lead G.es
 ·rw[if_pos (by omega),if_pos h1,if_pos h1]
 ·rw[if_neg h1,if_neg h1];by_cases h2:k=lead G.es
  ·rw[if_pos (by omega),if_pos h2]
  ·rw[if_neg (by omega),if_neg h2]
theorem pushes_ts(n:Nat)(l:List HB)(y:HB)(G:GrP):∀m,(pushes n l y G m).ts.length=max G.ts.length m∧(∀j,(pushes n l y G m).ts.getD j false=(decide (j < m) || G.ts.getD j false))
 | 0=> ⟨by simp[pushes],fun j=> by simp[pushes]⟩
 | m+1=> by
  obtain ⟨h1,h2⟩:=pushes_ts n l y G m;have h:(pushes n l y G (m+1)).ts=(padL (pushes n l y G m).ts (m+1) false).set m true:=by rw[pushes_succ];unfold pushP;simp only[];split <;> rfl
  rw[h];have hm:m < (padL (pushes n l y G m).ts (m+1) false).length:=by rw[padL_len];omega
  refine ⟨by rw[List.length_set,padL_len,h1];omega,fun j=> ?_⟩;rw[getD_put _ _ _ _ _ hm,padL_getD,h2];by_cases hj:j=m
  ·subst hj;simp
  ·rw[if_neg hj];by_cases hj2:j < m
   ·simp[hj2,show j < m+1 by omega]
   ·simp[hj2,show¬j < m+1 by omega]
theorem okP_mono{M M':Nat}(h:okP M G)(hM:M≤M'):okP M' G:=⟨h.e,h.t,h.lt,fun k=> Nat.le_trans (h.l k) hM,h.h⟩
structure GInv (n M:Nat) (G:GrP):Prop where
 f:fitsP n G.es
 h:E32 G.es
 k:okP M G
 t:G.ts.length≤G.es.length
 t8:G.ts.length≤3
theorem getD_E32(h:∀k,(es.getD k []).length < 256∧H32 (es.getD k [])):E32 es:=fun e he=> by obtain ⟨i,hi,rfl⟩:=List.getElem_of_mem he;have:=h i;rw[List.getD_eq_getElem?_getD,List.getElem?_eq_getElem hi] at this;exact ⟨this.2,this.1⟩
theorem GInv.ones{n M:Nat}(h:GInv n M G):ones n≤(peaksE nodeH G.es).length:=(step_main nodeH G.es n [] h.f).1
theorem ones_20{n:Nat}(hn:n < 1048576):ones n≤20:=by have:=ones_lt 21 n (by omega);omega
theorem GInv.add{n M:Nat}(h:GInv n M G)(hn:n < 1048576){y:HB}(hy:y.length=32):GInv (n+1) (M+3) (addP n y G):=by
 have hs:=step_main nodeH G.es n y h.f;have h20:=ones_20 hn;have hk:okP (M+3) (addP n y G):=okP_mono (pushes_ok (m:=Go.Proofs.YtnkcfkjeeennmaaGreatDoor.ones n / 8+1) h.k (peaksE_32 _ h.h) hy (fun k hk=> by have:=hs.1;omega) (by omega)) (by omega);have ht:=(pushes_ts n (peaksE nodeH G.es) y G (Go.Proofs.YtnkcfkjeeennmaaGreatDoor.ones n / 8+1)).1;refine ⟨by rw[addP_es n y G h.f];exact hs.2.2.1,getD_E32 hk.h,hk,?_,?_⟩
 ·rw[addP_es n y G h.f,stepE_len,hs.2.2.2.1];show (pushes _ _ _ _ _).ts.length≤_;rw[ht];have:=h.t;omega
 ·show (pushes _ _ _ _ _).ts.length≤_;rw[ht];have:=h.t8;omega
theorem GInv.adds:∀(ys:List HB) {n M:Nat} {G:GrP},GInv n M G→n+ys.length≤1048576→H32 ys→GInv (n+ys.length) (M+3*ys.length) (addsP n ys G)
 | [],n,M,G,h,_,_=> h
 | y::ys,n,M,G,h,hn,hy=> by have h1:=h.add (by simp at hn;omega) (hy y (by simp));have h2:=GInv.adds ys h1 (by simp at hn;omega) (fun z hz=> hy z (by simp[hz]));show GInv (n+(ys.length+1)) (M+3*(ys.length+1)) (addsP (n+1) ys (addP n y G));rw[show n+(ys.length+1)=n+1+ys.length by omega,show M+3*(ys.length+1)=M+3+3*ys.length by omega];exact h2
theorem addsP_es:∀(ys:List HB) (n:Nat) (G:GrP),fitsP n G.es→(addsP n ys G).es=ys.foldl (stepE nodeH) G.es
 | [],_,_,_=> rfl
 | y::ys,n,G,h=> by show (addsP (n+1) ys (addP n y G)).es=_;rw[addsP_es ys (n+1) (addP n y G) (by rw[addP_es n y G h];exact (step_main nodeH G.es n y h).2.2.1),addP_es n y G h];rfl
def gr0(es:List (List HB)):GrP:=⟨es,[],[]⟩
theorem GInv.start{n:Nat}(hf:fitsP n es)(h:E32 es)(hl:es.length≤64):GInv n 0 (gr0 es):=by
 refine ⟨hf,h,⟨hl,by simp[gr0],rfl,fun k=> by simp[gr0],fun k=> ?_⟩,by simp[gr0],by simp[gr0]⟩;show (es.getD k []).length < 256∧H32 (es.getD k []);rcases Nat.lt_or_ge k es.length with hk | hk
 ·have:=h es[k] (List.getElem_mem hk);rw[List.getD_eq_getElem?_getD,List.getElem?_eq_getElem hk];exact ⟨this.2,this.1⟩
 ·rw[List.getD_eq_getElem?_getD,List.getElem?_eq_none hk];exact ⟨by simp,H32.nil⟩
theorem peaks_pop{n:Nat}(hf:fitsP n es)(hn:n < 16777216):(peaksE nodeH es).length=pop3 n:=by
 unfold pop3;have p0:plen 8 0=0:=by kernel_rfl
 match es,hf with
 | [],hf=>
  have:n=0:=hf;subst this;simp[peaksE,p0]
 | [a],hf=>
  obtain ⟨_,h1,h2⟩:=hf;have h2:n / 256=0:=h2;simp only[peaksE,List.nil_append,pkD_plen,h1];rw[h2,show n / 65536=0 by omega];simp[p0]
 | [a,b],hf=>
  obtain ⟨_,h1,_,h2,h3⟩:=hf;have h3:n / 256 / 256=0:=h3;simp only[peaksE,List.nil_append,List.length_append,pkD_plen,h1,h2];rw[show n / 65536=0 by omega,p0];omega
 | [a,b,c],hf=>
  obtain ⟨_,h1,_,h2,_,h3,h4⟩:=hf;have h4:n / 256 / 256 / 256=0:=h4;simp only[peaksE,List.nil_append,List.length_append,pkD_plen,h1,h2,h3];rw[show n / 256 / 256 % 256=n / 65536 by omega];omega
 | a::b::c::d::es,hf=>
  obtain ⟨_,_,_,_,_,_,h4,_⟩:=hf;omega
theorem fits_3{n:Nat}(hf:fitsP n es)(hn:n < 16777216):es.length≤3:=(fits_len es n 3 hf).1 (by omega)
def putP(r:StD×EV)(p:ByteArray×ByteArray):StD×EV:=match r.2 with | none=> r.1.put p.1 p.2 | some _=> r
theorem putL_le(L:TxtL)(s t:ByteArray):(putL L s t).length≤L.length+1:=by
 induction L with
 | nil=> simp[putL]
 | cons a L ih=>
  obtain ⟨k,v⟩:=a;rw[putL];split <;> simp <;> omega
theorem put_grow(x:StD)(s t:ByteArray):(x.put s t).1.nw≤x.nw+1∧(x.put s t).1.texts.length≤x.texts.length+1:=by
 have:=putL_le x.texts s t;unfold StD.put;split
 ·exact ⟨by simp,by simp⟩
 ·split
  ·exact ⟨by simp,by simp⟩
  ·split
   ·exact ⟨by simp,this⟩
   ·exact ⟨by simp,this⟩
theorem putP_grow(r:StD×EV)(p:ByteArray×ByteArray):(putP r p).1.nw≤r.1.nw+1∧(putP r p).1.texts.length≤r.1.texts.length+1:=by
 unfold putP;split
 ·exact put_grow _ _ _
 ·exact ⟨by omega,by omega⟩
abbrev three(a b c:Nat):Nat→Prop:=fun g=> g=a∨g=b∨g=c
structure ClAt (w:World) (q a wb b mb:Nat) (se:Nat→Addr) (tv:Value) (o:List UInt8) (n:Nat) (root:HB) (ev:Value) (r:StD×EV):Prop where
 ok:w.heap[q]? =some (.cells #[evS se r.2] 38 (0,0))
 box:w.heap[a]? =some (.cells #[.pointer (some ⟨wb,0,none⟩)] 26 (0,0))
 wr:WrAt w wb (.pointer (some ⟨b,0,none⟩)) o n root ev false
 st:StAt w b mb tv r.1
theorem size_err:(Tryz.prog.info? 38).map (·.size)=some 1:=by kernel_rfl
theorem evS_cells(se:Nat→Addr)(e:EV):(evS se e).cells=#[evS se e]∧(evS se e).oneCell'=true:=by
 cases e with
 | none=> exact ⟨rfl,rfl⟩
 | some e=> obtain ⟨k,p⟩:=e;exact ⟨rfl,rfl⟩
theorem ClAt.upd{S:Nat→Prop}{w w':World}{q a wb b mb:Nat}{se:Nat→Addr}{o:List UInt8}{n:Nat}(h:ClAt w q a wb b mb se tv o n root ev r)(u:Upd S w w')(h1:¬S q)(h2:¬S a)(h3:¬S wb)(h4:¬S b)(h5:¬S mb)(h6:∀g,tv.ownBlock=some g→¬S g):ClAt w' q a wb b mb se tv o n root ev r:=
 ⟨u.blk h.ok h1,u.blk h.box h2,h.wr.upd u h3,h.st.upd u h4 h5 h6⟩
theorem ClAt.ext{w w':World}{q a wb b mb:Nat}{se:Nat→Addr}{o:List UInt8}{n:Nat}(h:ClAt w q a wb b mb se tv o n root ev r)(u:Ext w w'):ClAt w' q a wb b mb se tv o n root ev r:=h.upd u id id id id id (fun _ _=> id)
theorem put1_any{B q a wb b mb:Nat}{se:Nat→Addr}{o:List UInt8}{n:Nat}{w:World}(G:Genv B se w)(H:ClAt w q a wb b mb se tv o n root ev r)(hB:B≤b)(hM:B≤mb)(s t:ByteArray)(hs:s.size≤maxLen)(ht:t.size≤maxLen)(hn:r.1.nw < 4611686018427387904)(hL:r.1.texts.length < 4611686018427387904):
 Calls Tryz.prog 44 #[.string s,.string t,.pointer (some ⟨q,0,none⟩),.pointer (some ⟨a,0,none⟩)] w fun e w'=> e= .returned (.tuple #[])∧ClAt w' q a wb b mb se tv o n root ev (putP r (s,t))∧Upd (three b mb q) w w':=by
 have c0:w.cell? ⟨q,0,none⟩=some (evS se r.2):=cell_of_blk H.ok 0;have HH:=ZA H;have HG:=ZA G;have hneq:∀g,g=b∨g=mb→g≠q∧g≠a∧g≠wb:=fun g hg=> by
  obtain ⟨es,c,hmb⟩:=H.st.tex.blk;rcases hg with rfl | rfl
  ·exact ⟨tyNe H.st.blk H.ok (by decide),tyNe H.st.blk H.box (by decide),tyNe H.st.blk H.wr.blk (by decide)⟩
  ·refine ⟨fun e=> ?_,fun e=> ?_,fun e=> ?_⟩
   ·rw[e,H.ok] at hmb;cases hmb
   ·rw[e,H.box] at hmb;cases hmb
   ·rw[e,H.wr.blk] at hmb;cases hmb
 have HNE:=ZA hneq;cases hr:r.2 with
 | some er=>
  have hp:putP r (s,t)=r:=by unfold putP;rw[hr]
  obtain ⟨k,p⟩:=er;rw[hr] at c0;replace c0:w.cell? ⟨q,0,none⟩=some (sv se k):=c0;have HP:=ZA hp;clear H G hneq hp hr;go_enter Tryz.func44,Tryz.ntmps44;go_wp2_with fail;go_end0;exact ⟨rfl,by rw[HP.o];exact HH.o,Upd.refl _ _⟩
 | none=>
  have hp:putP r (s,t)=r.1.put s t:=by unfold putP;rw[hr]
  rw[hr] at c0;replace c0:w.cell? ⟨q,0,none⟩=some .nilIface:=c0;have c1:w.cell? ⟨a,0,none⟩=some (.pointer (some ⟨wb,0,none⟩)):=cell_of_blk H.box 0;have c2:w.cell? ⟨wb,0,none⟩=some (.pointer (some ⟨b,0,none⟩)):=H.wr.c0;have C:=put_any G H.st hB hM s t hs ht hn hL;have HP:=ZA hp;clear H G hneq hp hr hB hM hs ht hn hL;generalize r.1.put s t=r' at*;go_enter Tryz.func44,Tryz.ntmps44;go_wp2_with fail;refine C.mono ?_;rintro e w1 ⟨rfl,hst,hu⟩;have HST:=ZA hst;have HU:=ZA hu;have HQ1:=ZA (hu.blk HH.o.ok (fun e=> (HNE.o q (by rcases e with e | e;exact .inl e;exact .inr e)).1 rfl));have HA1:=ZA (hu.blk HH.o.box (fun e=> (HNE.o a (by rcases e with e | e;exact .inl e;exact .inr e)).2.1 rfl));have HW1:=ZA (HH.o.wr.upd hu (fun e=> (HNE.o wb (by rcases e with e | e;exact .inl e;exact .inr e)).2.2 rfl));have q0:w1.cell? ⟨q,0,none⟩=some (evS se r.2):=cell_of_blk HQ1.o 0;have qf:=free_of_blk HQ1.o 0;have HFIN:Hid (∀v,w1.setCell ⟨q,0,none⟩ v=w1.setCell ⟨q,0,none⟩ (evS se r'.2)→ClAt (w1.setCell ⟨q,0,none⟩ v) q a wb b mb se tv o n root ev r'∧Upd (three b mb q) w (w1.setCell ⟨q,0,none⟩ v)):=ZA (fun v hv=> by rw[hv];have u:=(Upd.refl (one q) w1).setCell (p:=⟨q,0,none⟩) (.inr rfl) (evS se r'.2);have n1:∀g,g=b∨g=mb→¬one q g:=fun g hg e=> (HNE.o g hg).1 e;have n2:¬one q a:=fun e=> tyNe HH.o.ok HH.o.box (by decide) (show a=q from e).symm;have n3:¬one q wb:=fun e=> tyNe HH.o.ok HH.o.wr.blk (by decide) (show wb=q from e).symm;refine ⟨⟨by have:=blk_set HQ1.o 0 (evS se r'.2);simpa using this,u.blk HA1.o n2,HW1.o.upd u n3,HST.o.upd u (n1 b (.inl rfl)) (n1 mb (.inr rfl)) (fun g hg e=> ?_)⟩,(HU.o.mono (fun g _ hg=> by rcases hg with e | e;exact .inl e;exact .inr (.inl e))).setCell (p:=⟨q,0,none⟩) (.inr (.inr (.inr rfl))) _⟩;exact rowNe HST.o.row HQ1.o (by decide) g hg e)
  clear C hst hu c0 c1 c2;obtain ⟨x',er⟩:=r';cases er with
  | none=>
   simp only[evS];go_wp2_with fail;go_end0;rw[HP.o];exact ⟨rfl,HFIN.o _ rfl⟩
  | some er=>
   obtain ⟨k,p⟩:=er;simp only[evS];go_wp2_with fail;go_end0;rw[HP.o];exact ⟨rfl,HFIN.o _ rfl⟩
section
variable {P:Program}
theorem region_tail3{id:Nat}{Q:Exit→Act→World→Prop}{a:Act}{w:World}{l:List Oper}(n:Nat)(F:List (Value⊕(Value→World→Prop)))(hmix:P.follows .mixedOrders=true)(hF:∀p,.inr p∈F→Lasts p)(hn:decide (n≤l.length)=true)(ho:onceB (l.take n) a.tmps.size=true)
 (hb:backB (l.take n)=true) (hg:guardB (l.take n)=true) (ht:tailB l n=true) (spec:SpecFrom3 P (l.take n) w (Slots3 F) a 0 (l.take n))
 (h:∀(v:Nat→Value) w',Ext w w'→(∀i o d,(l.take n)[i]? =some o→o.dst=some d→Slots3 F i (v i) w')→wpAny P .any l.toArray Q (l.length - n) ((List.range l.length).map (fun i=> decide (i < n))).toArray (putAll v (l.take n) 0 a) w'):(Code.region id l.toArray true).wp P Q a w:=by
 have hn:n≤l.length:=of_decide_eq_true hn;refine wp_region_any hmix ?_;have hlen:(l.take n).length=n:=by rw[List.length_take];omega
 have main:=any_tail (P:=P) (Q:=Q) (w0:=w) (Φ:=Slots3 F) (a0:=a) (m:=l.length - n) n hn (Slots3.mono hF) ho hb hg ht (fun i o hi=> by have:=SpecFrom3.all (l.take n) 0 spec i o hi;rwa [Nat.zero_add] at this) ?_ n (Array.replicate l.toArray.size false) a w.drew ?_ ?_
 ·rw[show n+(l.length - n)=l.toArray.size by simp;omega] at main;exact main
 ·intro listed a' w' hT hall;have hL:listed=((List.range l.length).map (fun i=> decide (i < n))).toArray:=by
   apply Array.ext_getElem?;intro i;by_cases hi:i < l.length
   ·have hs:i < listed.size:=by rw[hT.sz];exact hi
    have hv:listed.getD i false=decide (i < n):=by
     by_cases hin:i < n
     ·rw[hall i hin];simp[hin]
     ·rw[hT.lo i (by omega) hi];simp[hin]
    rw[Array.getD_eq_getD_getElem?,Array.getElem?_eq_getElem hs] at hv;rw[Array.getElem?_eq_getElem hs];simp only[Option.getD_some] at hv;simp[hi,hv]
   ·rw[Array.getElem?_eq_none (by rw[hT.sz];omega),Array.getElem?_eq_none (by simp;omega)]
  have hl:∀i,i < (l.take n).length→((listed.toList.take n).toArray).getD i false=true:=fun i hi=> by rw[take_getD _ _ _ _ (by omega)];exact hall i (by omega)
  have key:∃v:Nat→Value,∀(i:Nat) (o:Oper) (d:Tmp),(l.take n)[i]? =some o→o.dst=some d→v i=a'.eval (.tmp d):=⟨fun i=> match ((l.take n)[i]?).bind (·.dst) with | some d=> a'.eval (.tmp d) | none=> undef,fun i o d hi hd=> by simp only[hi,Option.bind_some,hd]⟩;obtain ⟨v,hv⟩:=key;have hJ:=hT.j;have e:a'=putAll v (l.take n) 0 a:=by
   obtain ⟨d1,d2⟩:=putAll_df v (l.take n) 0 a;have htm:a'.tmps=(putAll v (l.take n) 0 a).tmps:=by
    apply Array.ext_getElem?;intro t;by_cases hx:∃(i:Nat) (o:Oper),(l.take n)[i]? =some o∧o.dst=some t
    ·obtain ⟨i,o,hi,hd⟩:=hx;obtain ⟨h1,h2⟩:=once_spec ho hi hd;rw[putAll_new v t (l.take n) 0 a i o hi hd h1 h2,Nat.zero_add,hv i o t hi hd];have h3:t < a'.tmps.size:=by rw[hJ.tz];exact h1
     rw[Array.getElem?_eq_getElem h3];show _=some (a'.tmps.getD t undef);rw[Array.getD_eq_getD_getElem?,Array.getElem?_eq_getElem h3];rfl
    ·have hx:∀(i:Nat) (o:Oper),(l.take n)[i]? =some o→o.dst≠some t:=fun i o hi hd=> hx ⟨i,o,hi,hd⟩;rw[putAll_old v t (l.take n) 0 a (fun o ho'=> by obtain ⟨i,hi,rfl⟩:=List.mem_iff_getElem.1 ho';exact hx i _ (List.getElem?_eq_getElem hi))]
     exact hJ.old t (fun i o hi _=> hx i o hi)
   cases a'
   cases hp:putAll v (l.take n) 0 a
   rw[hp] at htm d1;simp only[Act.mk.injEq];exact ⟨htm,hJ.df.trans d1.symm⟩
  rw[e,hL];refine h v w' hJ.I (fun i o d hi hd=> ?_);rw[hv i o d hi hd];exact hJ.new i o d hi (hl i (List.getElem?_eq_some_iff.1 hi).1) hd
 ·have rep:∀i,(Array.replicate l.toArray.size false).getD i false=false:=fun i=> by rw[Array.getD_eq_getD_getElem?,Array.getElem?_replicate];split <;> rfl
  have rep2:∀i,(((Array.replicate l.toArray.size false).toList.take n).toArray).getD i false=false:=fun i=> by
   rw[Array.getD_eq_getD_getElem?];simp only[List.getElem?_toArray,List.getElem?_take,Array.getElem?_toList,Array.getElem?_replicate];split
   ·split <;> rfl
   ·rfl
  exact ⟨⟨(Upd.refl none' w).drew,by simp,rfl,rfl,fun _ _=> rfl,fun i o d _ hl=> by rw[rep2] at hl;cases hl⟩,by simp,fun i _ _=> rep i,fun i o _ hl=> by rw[rep] at hl;cases hl⟩
 ·have:∀i∈List.range n,(!(Array.replicate l.toArray.size false).getD i true)=true:=fun i hi=> by have hin:=List.mem_range.1 hi;rw[Array.getD_eq_getD_getElem?,Array.getElem?_replicate,if_pos (by simp;omega)];rfl
  rw[List.countP_eq_length.2 this,List.length_range]
theorem ty_alloc3{l:List Oper}{w0:World}{F:List (Value⊕(Value→World→Prop))}{a0:Act}{i:Nat}{o:Oper}(hg:Gd3 l F a0 o)(ty:TypeId)(ho:o.op= .alloc ty)(z:Value)(hz:(P.info? ty).bind (·.zero)=some z)(p:Value→World→Prop)(hF:F[i]? =some (.inr p))
 (h:∀w,Ext w0 w→p (.pointer (some ⟨w.heap.size,0,none⟩)) (w.alloc (.cells z.cells ty))):OpSpec P l w0 (Slots3 F) a0 i o:=by
 intro a w hX hH hN;rw[if_pos (hg a w hH hN)];have hr:(execOp a.eval o).run P w= .ok (.value (.pointer (some ⟨w.heap.size,0,none⟩))) (w.alloc (.cells z.cells ty)):=by
  cases hq:P.info? ty with
  | none=> simp[hq] at hz
  | some t=>
   have hz2:t.zero=some z:=by simpa[hq] using hz
   simp[execOp,ho,Instr.alloc,zeroValue,typeInfo,hq,hz2,newVar,newRow]
 rw[hr];exact ⟨(Upd.refl none' w).alloc _,by unfold Slots3;rw[hF];exact h w hX⟩
end
theorem below_mono{B B':Nat}{w w':World}(h:Below B' w w')(hB:B≤B'):Below B w w':=⟨h.os,h.tape,h.output,h.size,fun k hk=> h.block k (by omega)⟩
theorem Genv.up{B B':Nat}{se:Nat→Addr}{w:World}(h:Genv B se w)(hB:B≤B')(hs:B'≤w.heap.size):Genv B' se w:=
 ⟨h.cell,h.row,h.inj,h.et,fun k h1 h2=> ⟨by have:=(h.low k h1 h2).1;omega,by have:=(h.low k h1 h2).2;omega⟩,by have:=h.lowt;omega,hs⟩
theorem Env.up{B B':Nat}{se:Nat→Addr}{w:World}(h:Env B se w)(hB:B≤B')(hs:B'≤w.heap.size):Env B' se w:=
 ⟨h.g.up hB hs,by have:=h.sg;omega,fun w' k=> h.all w' (below_mono k hB)⟩
theorem BldAt.down{B B':Nat}{w:World}{b:Nat}{n:Nat}{l:List HB}(h:BldAt B w b lv n l)(hB:B'≤B):BldAt B' w b lv n l:=⟨h.blk,ownLow h.row hB,Nat.le_trans hB h.lo⟩
section
variable {B gb:Nat} {w w':World} {V:GrV} {D:GrD} {S:Nat→Prop}
theorem GrAt.frame(h:GrAt B w gb V D)(u:Upd S w w')(hS:∀g,B≤g→g < w.heap.size→S g→∃c T f,T∉grTys∧w.heap[g]? =some (.cells c T f)):GrAt B w' gb V D:=by
 have hr:∀{e size n:Nat} {v:Value} {xs:List Value},w.ownsRow B e size v n xs→e∈grTys→w'.ownsRow B e size v n xs:=fun hr he=>
  ownsRow_upd hr u (fun g hg hs=> by obtain ⟨c,T,f,hT,hc⟩:=hS g (hr.lt g hg).1 (hr.lt g hg).2 hs;exact rowNe hr hc (fun e2=> hT (e2▸he)) g hg rfl)
 have hb:∀{b:Nat} {cs:Array Value} {t:TypeId} {f:Nat×Nat},B≤b→w.heap[b]? =some (.cells cs t f)→t∈grTys→w'.heap[b]? =some (.cells cs t f):=fun hB hb ht=>
  u.blk hb (fun hs=> by obtain ⟨c,T,f,hT,hc⟩:=hS _ hB (lt_of_blk hb) hs;exact tyNe hb hc (fun e2=> hT (e2▸ht)) rfl)
 exact ⟨h.low,hb h.low h.blk (by decide),⟨hb h.bld.lo h.bld.blk (by decide),hr h.bld.row (by decide),h.bld.lo⟩,hr h.er (by decide),fun k=> hr (h.ee k) (by decide),hr h.dr (by decide),fun k=> hr (h.de k) (by decide),fun k x hx=> hr (h.lh k x hx) (by decide),hr h.tr (by decide),h.len,h.ape,h.apl,h.aph,h.apd⟩
theorem GrAt.moreX{ev' v':Value}{e:List HB}(h:GrAt B w gb V D)(u:Upd S w w')(hS:TysIn S w [106,65])(hb:w'.heap[gb]? =some (.cells #[.pointer (some ⟨V.bb,0,none⟩),ev',V.dv,V.tv] 106 (0,0)))
 (hr:w'.ownsRow B 65 1 ev' (D.es.length+1) (V.vs++ [v'])) (hv:w'.ownsRow B 30 32 v' e.length (hcells e)) (hat:∀g,v'.ownBlock=some g→w.heap.size≤g):GrAt B w' gb {V with ev:=ev',vs:=V.vs++ [v']} {D with es:=D.es++ [e]}:=by
 have hvl:V.vs.length=D.es.length:=by have:=h.er.1;omega
 have get:∀k,(V.vs++ [v']).getD k nilS=if k=V.vs.length then v' else V.vs.getD k nilS:=fun k=> by
  rw[List.getD_eq_getElem?_getD,List.getD_eq_getElem?_getD];rcases Nat.lt_trichotomy k V.vs.length with hk | hk | hk
  ·rw[List.getElem?_append_left hk,if_neg (by omega)]
  ·rw[List.getElem?_append_right (by omega),if_pos hk,hk];simp
  ·rw[List.getElem?_append_right (by omega),if_neg (by omega),List.getElem?_eq_none (l:=V.vs) (by omega),List.getElem?_eq_none (by simp;omega)]
 have gete:∀k,(D.es++ [e]).getD k []=if k=V.vs.length then e else D.es.getD k []:=fun k=> by
  rw[hvl,List.getD_eq_getElem?_getD,List.getD_eq_getElem?_getD];rcases Nat.lt_trichotomy k D.es.length with hk | hk | hk
  ·rw[List.getElem?_append_left hk,if_neg (by omega)]
  ·rw[List.getElem?_append_right (by omega),if_pos hk,hk];simp
  ·rw[List.getElem?_append_right (by omega),if_neg (by omega),List.getElem?_eq_none (l:=D.es) (by omega),List.getElem?_eq_none (by simp;omega)]
 have old:∀k g,(V.vs.getD k nilS).ownBlock=some g→v'.ownBlock≠some g:=fun k g hg e2=> by have h1:=hat g e2;have h2:=((h.ee k).lt g hg).2;omega
 refine ⟨h.low,hb,h.bld.tys u hS (by decide) (by decide),by simpa using hr,fun k=> ?_,own_tys h.dr u hS (by decide),fun k=> own_tys (h.de k) u hS (by decide),fun k x hx=> own_tys (h.lh k x hx) u hS (by decide),own_tys h.tr u hS (by decide),h.len,fun j k g hjk hg=> ?_,fun k g hg=> ?_,fun k x hx g hg=> ⟨(h.aph k x hx g hg).1,fun j=> ?_⟩,h.apd⟩
 ·show w'.ownsRow B 30 32 ((V.vs++ [v']).getD k nilS) ((D.es++ [e]).getD k []).length (hcells ((D.es++ [e]).getD k []));rw[get,gete];by_cases hk:k=V.vs.length
  ·rw[if_pos hk,if_pos hk];exact hv
  ·rw[if_neg hk,if_neg hk];exact own_tys (h.ee k) u hS (by decide)
 ·have hg':((V.vs++ [v']).getD j nilS).ownBlock=some g:=hg;show ((V.vs++ [v']).getD k nilS).ownBlock≠some g;rw[get] at hg'⊢;by_cases hj:j=V.vs.length
  ·rw[if_pos hj] at hg';rw[if_neg (fun e=> hjk (hj.trans e.symm))];exact fun e=> old k g e hg'
  ·rw[if_neg hj] at hg';by_cases hk:k=V.vs.length
   ·rw[if_pos hk];exact old j g hg'
   ·rw[if_neg hk];exact h.ape j k g hjk hg'
 ·show ((V.vs++ [v']).getD k nilS).ownBlock≠some g;rw[get];by_cases hk:k=V.vs.length
  ·rw[if_pos hk];intro e2;have h1:=hat g e2;have h2:=(h.bld.row.lt g hg).2;omega
  ·rw[if_neg hk];exact h.apl k g hg
 ·show ((V.vs++ [v']).getD j nilS).ownBlock≠some g;rw[get];by_cases hj:j=V.vs.length
  ·rw[if_pos hj];intro e2;have h1:=hat g e2;have h2:=((h.lh k x hx).lt g hg).2;omega
  ·rw[if_neg hj];exact (h.aph k x hx g hg).2 j
theorem GrAt.fresh{bb n:Nat}{l:List HB}(hb:BldAt B w bb lv n l)(hB:B≤w.heap.size):GrAt B (w.alloc (.cells #[.pointer (some ⟨bb,0,none⟩),nilS,nilS,nilS] 106)) w.heap.size ⟨bb,lv,nilS,nilS,nilS,[],[]⟩ ⟨n,l,[],[],[]⟩:=by
 have X:=(Upd.refl none' w).alloc (.cells #[.pointer (some ⟨bb,0,none⟩),nilS,nilS,nilS] 106);have e0:∀k,([]:List Value).getD k nilS=nilS:=fun k=> by simp
 have e1:∀k,([]:List (List HB)).getD k []= []:=fun k=> by simp
 have e2:∀k,([]:List (List LaidD)).getD k []= []:=fun k=> by simp
 refine ⟨hB,blk_alloc _ _,hb.ext X,World.ownsRow_nil _ _ _ _,fun k=> ?_,World.ownsRow_nil _ _ _ _,fun k=> ?_,fun k x hx=> ?_,World.ownsRow_nil _ _ _ _,rfl,fun j k g _ hg=> ?_,fun k g _ e=> ?_,fun k x hx=> ?_,fun j k g _ hg=> ?_⟩
 ·show World.ownsRow _ B _ 32 (([]:List Value).getD k nilS) (([]:List (List HB)).getD k []).length (hcells (([]:List (List HB)).getD k []));rw[e0,e1];exact World.ownsRow_nil _ _ _ _
 ·show World.ownsRow _ B _ 4 (([]:List Value).getD k nilS) (([]:List (List LaidD)).getD k []).length (laidCs (([]:List (List LaidD)).getD k []));rw[e0,e2];exact World.ownsRow_nil _ _ _ _
 ·have hx':x∈([]:List (List LaidD)).getD k []:=hx;rw[e2] at hx';cases hx'
 ·have hg':(([]:List Value).getD j nilS).ownBlock=some g:=hg;rw[e0] at hg';cases hg'
 ·have e':(([]:List Value).getD k nilS).ownBlock=some g:=e;rw[e0] at e';cases e'
 ·have hx':x∈([]:List (List LaidD)).getD k []:=hx;rw[e2] at hx';cases hx'
 ·have hg':(([]:List Value).getD j nilS).ownBlock=some g:=hg;rw[e0] at hg';cases hg'
end
theorem size_edges:(Tryz.prog.info? 33).map (·.size)=some 1:=by kernel_rfl
structure EgAt (B:Nat) (w:World) (ev:Value) (es:List (List HB)) (vs:List Value):Prop where
 er:w.ownsRow B 65 1 ev es.length vs
 ee:∀k,w.ownsRow B 30 32 (vs.getD k nilS) (es.getD k []).length (hcells (es.getD k []))
theorem EgAt.upd{B:Nat}{w w':World}{S:Nat→Prop}(h:EgAt B w ev es vs)(u:Upd S w w')(hS:∀g,g < w.heap.size→S g→∃o,w.heap[g]? =some o∧∀c f,o≠ .cells c 65 f∧o≠ .cells c 30 f):EgAt B w' ev es vs:=
 ⟨ownsRow_upd h.er u (fun g hg hs=> by
  obtain ⟨o,h1,h2⟩:=hS g (h.er.lt g hg).2 hs;obtain ⟨c,hc⟩:=rowT h.er hg;rw[h1] at hc;exact (h2 c (0,0)).1 (Option.some.inj hc)),fun k=> ownsRow_upd (h.ee k) u (fun g hg hs=> by
  obtain ⟨o,h1,h2⟩:=hS g ((h.ee k).lt g hg).2 hs;obtain ⟨c,hc⟩:=rowT (h.ee k) hg;rw[h1] at hc;exact (h2 c (0,0)).2 (Option.some.inj hc))⟩
theorem EgAt.ext{B:Nat}{w w':World}(h:EgAt B w ev es vs)(u:Ext w w'):EgAt B w' ev es vs:=h.upd u (fun _ _ hs=> hs.elim)
theorem EgAt.at{B:Nat}{w:World}{A:Option Addr}{c:Nat}{es:List (List HB)}{vs:List Value}(h:EgAt B w (.slice A es.length c) es vs):EdAt w A es:=by
 intro k e he;obtain ⟨hk,rfl⟩:=List.getElem?_eq_some_iff.1 he;have hvl:vs.length=es.length:=by have:=h.er.1;omega
 rcases own_form h.er with ⟨_,h0⟩ | ⟨g,c',h1,_⟩
 ·omega
 ·simp only[Value.slice.injEq,true_and] at h1;obtain ⟨rfl,rfl⟩:=h1;have hc:=h.er.cells (g:=g) rfl k (vs.getD k nilS) (by rw[List.getD_eq_getElem?_getD,List.getElem?_eq_getElem (by omega)];rfl);rw[Addr.add_lit] at hc;have he2:=h.ee k;have hgk:es.getD k []=es[k]:=by rw[List.getD_eq_getElem?_getD,List.getElem?_eq_getElem hk];rfl
  rw[hgk] at he2;obtain ⟨a,cap,hv⟩:=own_sl he2;rw[hv] at he2 hc;refine ⟨g,0,a,cap,rfl,hc,row_capL he2,cells_own he2,?_⟩;rcases own_form he2 with ⟨h3,_⟩ | ⟨g2,c2,h3,_⟩
  ·simp only[Value.slice.injEq] at h3;exact .inl h3.1
  ·simp only[Value.slice.injEq] at h3;exact .inr ⟨g2,0,h3.1⟩
section
variable {P:Program} {ops:Array Oper} {Q:Exit→Act→World→Prop} {a:Act} {w:World} {i:Nat} {o:Oper} {K:Act→World→Prop}
theorem op_storeAggAt(hi:ops[i]? =some o)(hw:Region.wanted o (yielded ops a.tmps)=true)(ty:TypeId)(x y:Operand)(ho:o.op= .store ty x y)
 (g off:Nat) (hx:a.eval x= .pointer (some ⟨g,off,none⟩)) (vs:List Value) (hy:a.eval y= .agg vs.toArray) (hs:(P.info? ty).map (·.size)=some vs.length)
 (cs:List Value) (t:TypeId) (hg:w.heap[g]? =some (.cells cs.toArray t (0,0))) (hfit:off+vs.length≤cs.length) (h1:∀u∈vs,u.oneCell'=true)
 (h:K (a.put o.dst undef) (w.setRow g (over cs off vs).toArray)):wpOp P ops Q i K a w:=by
 unfold wpOp;simp only[hi];rw[if_pos hw];left;have hst:=run_storeCells_at P g off t vs 0 cs.toArray w hg (by simpa using hfit) h1;cases hq:P.info? ty with
 | none=> simp[hq] at hs
 | some it=>
  have hss:it.size=vs.length:=by simpa[hq] using hs
  simp only[Nat.add_zero] at hst;unfold Oper.wp execOp;simp[ho,hx,hy,Instr.storeAt,Instr.sureAddr,storeVar,sizeOf,typeInfo,hq,hss,Value.cells,hst];exact h
end
end Go.Proofs.YtnkcfkjeeennmaaGreatDoor
