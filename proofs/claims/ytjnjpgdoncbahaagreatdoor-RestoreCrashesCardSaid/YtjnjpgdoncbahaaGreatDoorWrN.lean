/- writer.Append by contracts where it refuses, and where there is nothing to append. PRINTED by wip/tools/gen_wrn.py. What the growth of the program lays, level by level: plain law. (As in RefGrP, without the reference.) Edges that a loop makes, one behind the other. The document's store by contracts: what lies in memory; Plain, May, twin, New, name. The document's store by contracts: twin, New, Restart, Counts, Dead. -/
import Derived.Test.YtjnjpgdoncbahaaGreatDoorApD
import Derived.Test.YtjnjpgdoncbahaaGreatDoorTree
import Derived.Test.YtjnjpgdoncbahaaGreatDoorTxt
import Derived.Test.YtjnjpgdoncbahaaGreatDoorCode
import Derived.Test.YtjnjpgdoncbahaaGreatDoorApp
namespace Go.Proofs.YtjnjpgdoncbahaaGreatDoor
open Go.RowKit Go.Lib
set_option maxRecDepth 20000
set_option maxHeartbeats 8000000
variable {B i n:Nat}{es:List (List HB)}{ev:Value}{vs:List Value}{w w':World}
theorem append_empty{wb b:Nat}{se:Nat→Addr}{o:List UInt8}{root:HB}(E:Env B se w)(HW:WrAt w wb (.pointer (some ⟨b,0,none⟩)) o n root ev false)(hr:root.length=32)(hn:n≤1048576)(A:Option Addr)(c:Nat)(hA:A=none∨∃g o,A=some ⟨g,o,none⟩):Calls Tryz.prog 20 #[.pointer (some ⟨wb,0,none⟩),.slice A 0 c] w fun e w'=> e= .returned (.tuple #[ckV o n root,.nilIface])∧Ext w w':=by
 have X1:=((Upd.refl none' w).alloc (.cells #[.pointer (some ⟨wb,0,none⟩)] 40)).alloc (.cells zckA 36);have HA0:=ZA (blk_alloc_lt (blk_alloc w (.cells #[.pointer (some ⟨wb,0,none⟩)] 40)) (.cells zckA 36));have HZ0:Hid (((w.alloc (.cells #[.pointer (some ⟨wb,0,none⟩)] 40)).alloc (.cells zckA 36)).heap[w.heap.size+1]? =some (.cells zckA 36 (0,0))):=ZA (by have:=blk_alloc (w.alloc (.cells #[.pointer (some ⟨wb,0,none⟩)] 40)) (.cells zckA 36);rwa [World.size_alloc] at this)
 have HX1:=ZA X1;have HE1:=ZA (E.ext X1);have HBW:=ZA E.g.size;have k0:((w.alloc (.cells #[.pointer (some ⟨wb,0,none⟩)] 40)).alloc (.cells zckA 36)).cell? ⟨w.heap.size,0,none⟩=some (.pointer (some ⟨wb,0,none⟩)):=cell_of_blk HA0.o 0;have k1:=(HW.ext X1).c0;have k2:=(HW.ext X1).c37 hr;have CL:=long_any (HW.ext X1) hn A [] c (fun j v hv=> by simp at hv) hA (by simp);rw[show (decide (4096 < ([]:List (List UInt8)).length) || decide (1048576 < n+([]:List (List UInt8)).length) || ([]:List (List UInt8)).any longS)=false by simp;omega] at CL;have HCK:=ZA (HW.ext X1).ck;have HS:=ZA (ck_size o n root hr);have HOV:Hid (over zckA.toList 0 (ckC o n root)=ckC o n root):=ZA (over_all _ _ (by rw[ck_len _ _ _ hr];rfl));have HLN:=ZA (ck_len o n root hr);clear E X1 HW hn hA hr;go_enter Tryz.func20,Tryz.ntmps20;go_wp2_with fail;refine CL.mono ?_;rintro e w1 ⟨rfl,hw1⟩;clear CL;generalize hW:(w.alloc (.cells #[.pointer (some ⟨wb,0,none⟩)] 40)).alloc (.cells zckA 36)=W1 at*;subst hw1;clear hW;go_wp2_with (first
  | refine wpList_loadAgg rfl 36 _ rfl wb 1 rfl (ckC o n root) Tryz.underlying36 rfl HS.o HCK.o ?_
  | refine wpList_storeAgg rfl 36 _ _ rfl (w.heap.size+1) 0 rfl (ckC o n root) rfl HS.o zckA.toList 36 HZ0.o (by rw[HLN.o];exact Nat.le_refl _) (ck_one _ _ _) ?_)
 rw[show over _ 0 (ckC o n root)=ckC o n root from HOV.o];have HQF:=ZA (blk_setRow HZ0.o (ckC o n root).toArray);have hsz:(Tryz.prog.info? 36).map (·.size)=some (ckC o n root).toArray.size:=HS.o;exact bodyPost_ret (v:= .tuple #[ckV o n root,.nilIface]) (results_cell_twoV rfl _ _ (w.heap.size+1) 36 _ (0,0) _ .nilIface rfl rfl HQF.o Tryz.underlying36 rfl hsz) rfl ⟨rfl,HX1.o.setRow (.inl (by omega)) _⟩
def tl(k a:Nat)(R:List HB):List LaidP:=(List.range (R.length / 256)).map (fun j=> (k,a+j,256,chunk R j))
theorem tl_snoc(k a:Nat)(R:List HB)(x:HB):tl k a (R++ [x])=tl k a R++(if (restL R).length=255 then [(k,a+R.length / 256,256,restL R++ [x])] else []):=by
 have hr:=restL_len R;unfold tl;rw[List.length_append,List.length_singleton];by_cases h:(restL R).length=255
 ·rw[if_pos h,show (R.length+1) / 256=R.length / 256+1 by omega,List.range_succ,List.map_append,List.map_singleton];congr 1
  ·refine List.map_congr_left fun j hj=> ?_;rw[chunk_app R x j (List.mem_range.1 hj)]
  ·have hc:chunk (R++ [x]) (R.length / 256)=restL R++ [x]:=by unfold chunk restL;rw[List.drop_append_of_le_length (by omega),List.take_of_length_le];unfold restL at h;rw[List.length_append,h,List.length_singleton];decide
   rw[hc]
 ·rw[if_neg h,List.append_nil,show (R.length+1) / 256=R.length / 256 by omega];refine List.map_congr_left fun j hj=> ?_;rw[chunk_app R x j (List.mem_range.1 hj)]
theorem pushes_ls(n:Nat)(y:HB)(G:GrP)(hf:fitsP n G.es):∀m,m≤lead G.es+1→
 ∀j,(pushes n (peaksE nodeH G.es) y G m).ls.getD j []=G.ls.getD j []++(if j < m∧j < lead G.es then [(j,n / 2 ^ (8*j) / 256,256,G.es.getD j []++ [cE nodeH j G.es y])] else []):=by
 have hs:=step_main nodeH G.es n y hf;intro m;induction m with
 | zero=>
  intro _ j;rw[if_neg (by omega),List.append_nil];rfl
 | succ m ih=>
  intro hm j;have h2:=ih (by omega);have h1:=(pushes_at n y G hf m (by omega)).2;have hx:cr nodeH (peaksE nodeH G.es) (8*m) y=cE nodeH m G.es y:=hs.2.2.2.2 m (by omega);have hg:(pushes n (peaksE nodeH G.es) y G m).es.getD m []=G.es.getD m []:=by rw[h1,if_neg (Nat.lt_irrefl _)]
  have hl:(pushes n (peaksE nodeH G.es) y G m).ls.getD m []=G.ls.getD m []:=by rw[h2,if_neg (by omega),List.append_nil]
  rw[pushes_succ,hx];generalize pushes n (peaksE nodeH G.es) y G m=P at*;have hml:m < (padL P.ls (m+1) []).length:=by rw[padL_len];omega
  unfold pushP;simp only[padL_getD];rw[hg];by_cases h255:(G.es.getD m []).length+1=256
  ·rw[if_pos h255];have hml2:m < lead G.es:=by
    rcases Nat.lt_or_ge m (lead G.es) with h | h
    ·exact h
    ·exfalso;have:m=lead G.es:=by omega
     have h3:=lead_not G.es;rw[←this] at h3;omega
   show ((padL P.ls (m+1) []).set m _).getD j []=_;rw[getD_put _ _ _ _ _ hml,padL_getD];by_cases hj:j=m
   ·subst hj;rw[if_pos rfl,hl,if_pos ⟨by omega,hml2⟩]
   ·rw[if_neg hj,h2];congr 1;by_cases hj2:j < m∧j < lead G.es
    ·rw[if_pos hj2,if_pos ⟨by omega,hj2.2⟩]
    ·rw[if_neg hj2,if_neg (by omega)]
  ·rw[if_neg h255];have hml2:¬m < lead G.es:=fun h=> by have:=lead_full G.es m h;omega
   show (padL P.ls (m+1) []).getD j []=_;rw[padL_getD,h2];congr 1;by_cases hj2:j < m∧j < lead G.es
   ·rw[if_pos hj2,if_pos ⟨by omega,hj2.2⟩]
   ·rw[if_neg hj2,if_neg (by omega)]
theorem p8(k:Nat):2 ^ (8*k)=256 ^ k:=by rw[Nat.pow_mul]
theorem more_row(es:List (List HB))(L:List HB)(k:Nat):(more nodeH es L (k+1)).length=(rowG nodeH es L k).length / 256:=by show ((chunksL (rowG nodeH es L k)).map (whole nodeH 8)).length=_;rw[List.length_map,chunksL_len]
theorem addsP_main(hf:fitsP n es):∀(m:Nat) (L:List HB),L.length=m→
 (∀k,(addsP n L (gr0 es)).ls.getD k []=tl k (n / 256 ^ k / 256) (rowG nodeH es L k))∧
 (∀k,((addsP n L (gr0 es)).ts.getD k false=true↔more nodeH es L k≠ []))∧
 (∀k,((addsP n L (gr0 es)).ts.length≤k↔more nodeH es L k= [])):=by
 have hlt:=fits_lt hf;intro m;induction m with
 | zero=>
  intro L hL;have:L= []:=List.length_eq_zero_iff.1 hL;subst this;have h0:∀k,more nodeH es [] k= []:=by
   intro k;induction k with
   | zero=> rfl
   | succ k ih=> rw[more,ih,List.append_nil,chunksL_small (hlt k)];rfl
  refine ⟨fun k=> ?_,fun k=> ?_,fun k=> ?_⟩
  ·show ([]:List (List LaidP)).getD k []=_;unfold tl rowG;rw[h0,List.append_nil,Nat.div_eq_of_lt (hlt k)];rfl
  ·rw[h0];show ([]:List Bool).getD k false=true↔_;simp
  ·rw[h0];show ([]:List Bool).length≤k↔_;simp
 | succ m ih=>
  intro L hL;obtain ⟨L0,x,rfl⟩:∃L0 x,L=L0++ [x]:=by
   rcases List.eq_nil_or_concat L with h | ⟨a,b,h⟩
   ·subst h;simp at hL
   ·exact ⟨a,b,by simpa using h⟩
  obtain ⟨i1,i2,i3⟩:=ih L0 (by simpa using hL);obtain ⟨g1,g2⟩:=grow_main nodeH es hlt L0.length L0 rfl;have hE:(addsP n L0 (gr0 es)).es=L0.foldl (stepE nodeH) es:=addsP_es L0 n (gr0 es) hf;have hfE:fitsP (n+L0.length) (addsP n L0 (gr0 es)).es:=by rw[hE];exact foldl_fits nodeH L0 es n hf
  have hs:=step_main nodeH _ (n+L0.length) x hfE;have hml:=more_len nodeH hf L0;rw[addsP_snoc];generalize addsP n L0 (gr0 es)=G at*;have hge:∀k,G.es.getD k []=restL (rowG nodeH es L0 k):=fun k=> by rw[hE];exact g1 k
  have hrow:∀k,rowG nodeH es (L0++ [x]) k=rowG nodeH es L0 k++(if k≤lead G.es then [cE nodeH k G.es x] else []):=fun k=> by unfold rowG;rw[g2,←hE,List.append_assoc]
  have hmore:∀k,more nodeH es (L0++ [x]) k=more nodeH es L0 k++(if k≤lead G.es then [cE nodeH k G.es x] else []):=fun k=> by rw[g2,←hE]
  have hls:=pushes_ls (n+L0.length) x G hfE (lead G.es+1) (Nat.le_refl _);have hts:=pushes_ts (n+L0.length) (peaksE nodeH G.es) x G (lead G.es+1);unfold addP;rw[←hs.2.2.2.1];refine ⟨fun k=> ?_,fun k=> ?_,fun k=> ?_⟩
  ·rw[hls,i1,hrow];by_cases h1:k≤lead G.es
   ·rw[if_pos h1,tl_snoc];congr 1;by_cases h2:k < lead G.es
    ·have hf255:=lead_full _ k h2;rw[hge] at hf255;rw[if_pos ⟨by omega,h2⟩,if_pos hf255,←hge];have hi:(n+L0.length) / 2 ^ (8*k) / 256=n / 256 ^ k / 256+(rowG nodeH es L0 k).length / 256:=by rw[p8,Nat.div_div_eq_div_mul,Nat.div_div_eq_div_mul,←Nat.pow_succ,hml (k+1),more_row]
     rw[hi]
    ·have h3:k=lead G.es:=by omega
     have hn255:(G.es.getD k []).length≠255:=by rw[h3];exact lead_not _
     rw[hge] at hn255;rw[if_neg (by omega),if_neg hn255]
   ·rw[if_neg h1,if_neg (by omega),List.append_nil,List.append_nil]
  ·rw[hts.2,hmore];by_cases h1:k≤lead G.es
   ·rw[if_pos h1];simp[show k < lead G.es+1 by omega]
   ·rw[if_neg h1,List.append_nil];rw[←i2];simp[show¬k < lead G.es+1 by omega]
  ·rw[hts.1,hmore];by_cases h1:k≤lead G.es
   ·rw[if_pos h1];simp;omega
   ·rw[if_neg h1,List.append_nil,←i3];omega
structure EdJ (B:Nat) (w:World) (ev:Value) (es:List (List HB)) (i:Nat) (vs:List Value):Prop where
 er:w.ownsRow B 113 1 ev i vs
 ee:∀k,k < i→w.ownsRow B 33 32 (vs.getD k nilS) (es.getD k []).length (hcells (es.getD k []))
theorem EdJ.nil(B:Nat)(w:World)(es:List (List HB)):EdJ B w (.slice none 0 0) es 0 []:=⟨World.ownsRow_nil _ _ _ _,fun _ hk=> absurd hk (Nat.not_lt_zero _)⟩
theorem EdJ.eg(h:EdJ B w ev es es.length vs):EgAt B w ev es vs:=⟨h.er,fun k=> by
 rcases Nat.lt_or_ge k es.length with hk | hk
 ·exact h.ee k hk
 ·have hl:vs.length=es.length:=by have:=h.er.1;omega
  rw[List.getD_eq_getElem?_getD,List.getElem?_eq_none (by omega),List.getD_eq_getElem?_getD (l:=es),List.getElem?_eq_none (by omega)];exact World.ownsRow_nil _ _ _ _⟩
theorem EdJ.upd{S:Nat→Prop}(h:EdJ B w ev es i vs)(u:Upd S w w')(hS:∀g,g < w.heap.size→S g→∃o,w.heap[g]? =some o∧∀c f,o≠ .cells c 113 f∧o≠ .cells c 33 f):EdJ B w' ev es i vs:=
 ⟨rows_upd h.er u (fun q hq hs=> by
  obtain ⟨c1,hc1⟩:=rowT h.er hq;obtain ⟨o,ho,hne⟩:=hS q (lt_of_blk hc1) hs;rw[hc1] at ho;exact (hne _ _).1 (Option.some.inj ho).symm),fun k hk=> rows_upd (h.ee k hk) u (fun q hq hs=> by
  obtain ⟨c1,hc1⟩:=rowT (h.ee k hk) hq;obtain ⟨o,ho,hne⟩:=hS q (lt_of_blk hc1) hs;rw[hc1] at ho;exact (hne _ _).2 (Option.some.inj ho).symm)⟩
theorem EdJ.ext(h:EdJ B w ev es i vs)(u:Ext w w'):EdJ B w' ev es i vs:=h.upd u (fun _ _ hs=> hs.elim)
theorem EdJ.snoc{v v':Value}(h:EdJ B w ev es i vs)(u:Upd (fun g=> ev.ownBlock=some g) w w')(ho:w'.ownsRow B 113 1 v (i+1) (vs++ [v']))(hv:w.ownsRow B 33 32 v' (es.getD i []).length (hcells (es.getD i []))):EdJ B w' v es (i+1) (vs++ [v']):=by
 have hl:vs.length=i:=by have:=h.er.1;omega
 have K:∀(y:Value) (n:Nat) (xs:List Value),w.ownsRow B 33 32 y n xs→w'.ownsRow B 33 32 y n xs:=fun y n xs hy=> rows_upd hy u (fun g hg e=> by obtain ⟨c1,hc1⟩:=rowT hy hg;obtain ⟨c2,hc2⟩:=rowT h.er e;rw[hc1] at hc2;simp at hc2)
 refine ⟨ho,fun k hk=> ?_⟩;rcases Nat.lt_or_ge k i with hki | hki
 ·rw[List.getD_eq_getElem?_getD,List.getElem?_append_left (by omega),←List.getD_eq_getElem?_getD];exact K _ _ _ (h.ee k hki)
 ·obtain rfl:k=i:=by omega
  rw[List.getD_eq_getElem?_getD,List.getElem?_append_right (by omega),hl,Nat.sub_self];exact K _ _ _ hv
end Go.Proofs.YtjnjpgdoncbahaaGreatDoor
