/- What the growth of the program lays, level by level: plain law. (As in RefGrP, without the reference.) The levels of a log: what its tiles hold; what comes to them where leaves are appended: plain law. -/
import Derived.Test.YtnkcfkjeeennmaaGreatDoorPathW
import Derived.Test.YtnkcfkjeeennmaaGreatDoorGrowP
import Derived.Test.YtnkcfkjeeennmaaGreatDoorNoneP
namespace Go.Proofs.YtnkcfkjeeennmaaGreatDoor
open Go.RowKit Go.Lib
def tl(k a:Nat)(R:List HB):List LaidP:=(List.range (R.length / 256)).map (fun j=> (k,a+j,256,chunk R j))
theorem tl_snoc(k a:Nat)(R:List HB)(x:HB):tl k a (R++ [x])=tl k a R++(if (restL R).length=255 then [(k,a+R.length / 256,256,restL R++ [x])] else []):=by
 have hr:=restL_len R;unfold tl;rw[List.length_append,List.length_singleton];by_cases h:(restL R).length=255
 ·rw[if_pos h,show (R.length+1) / 256=R.length / 256+1 by omega,List.range_succ,List.map_append,List.map_singleton];congr 1
  ·refine List.map_congr_left fun j hj=> ?_;rw[chunk_app R x j (List.mem_range.1 hj)]
  ·have hc:chunk (R++ [x]) (R.length / 256)=restL R++ [x]:=by unfold chunk restL;rw[List.drop_append_of_le_length (by omega),List.take_of_length_le];unfold restL at h;rw[List.length_append,h,List.length_singleton];decide
   rw[hc]
 ·rw[if_neg h,List.append_nil,show (R.length+1) / 256=R.length / 256 by omega];refine List.map_congr_left fun j hj=> ?_;rw[chunk_app R x j (List.mem_range.1 hj)]
theorem pushes_ls(n:Nat)(y:HB)(G:GrP)(hf:fitsP n G.es):∀m,m≤lead G.es+1→
 ∀j,(pushes n (peaksE nodeH G.es) y G m).ls.getD j []=G.ls.getD j []++(if j < m∧j < lead G.es then [(j,n / 2 ^ (8*j) / 256,256,G.es.getD j []++ [cE nodeH j G.es y])] else []):=by
 have hs:=step_main nodeH G.es n y hf;intro m;induction m with
 | zero=>
  intro _ j;rw[if_neg (by omega),List.append_nil];rfl
 | succ m ih=>
  intro hm j;have h2:=ih (by omega);have h1:=(pushes_at n y G hf m (by omega)).2;have hx:cr nodeH (peaksE nodeH G.es) (8*m) y=cE nodeH m G.es y:=hs.2.2.2.2 m (by omega);have hg:(pushes n (peaksE nodeH G.es) y G m).es.getD m []=G.es.getD m []:=by rw[h1,if_neg (Nat.lt_irrefl _)]
  have hl:(pushes n (peaksE nodeH G.es) y G m).ls.getD m []=G.ls.getD m []:=by rw[h2,if_neg (by omega),List.append_nil]
  rw[pushes_succ,hx];generalize pushes n (peaksE nodeH G.es) y G m=P at*;have hml:m < (padL P.ls (m+1) []).length:=by rw[padL_len];omega
  unfold pushP;simp only[padL_getD];rw[hg];by_cases h255:(G.es.getD m []).length+1=256
  ·rw[if_pos h255];have hml2:m < lead G.es:=by
    rcases Nat.lt_or_ge m (lead G.es) with h | h
    ·exact h
    ·exfalso;have:m=lead G.es:=by omega
     have h3:=lead_not G.es;rw[←this] at h3;omega
   show ((padL P.ls (m+1) []).set m _).getD j []=_;rw[getD_put _ _ _ _ _ hml,padL_getD];by_cases hj:j=m
   ·subst hj;rw[if_pos rfl,hl,if_pos ⟨by omega,hml2⟩]
   ·rw[if_neg hj,h2];congr 1;by_cases hj2:j < m∧j < lead G.es
    ·rw[if_pos hj2,if_pos ⟨by omega,hj2.2⟩]
    ·rw[if_neg hj2,if_neg (by omega)]
  ·rw[if_neg h255];have hml2:¬m < lead G.es:=fun h=> by have:=lead_full G.es m h;omega
   show (padL P.ls (m+1) []).getD j []=_;rw[padL_getD,h2];congr 1;by_cases hj2:j < m∧j < lead G.es
   ·rw[if_pos hj2,if_pos ⟨by omega,hj2.2⟩]
   ·rw[if_neg hj2,if_neg (by omega)]
theorem p8(k:Nat):2 ^ (8*k)=256 ^ k:=by rw[Nat.pow_mul]
theorem more_row(es:List (List HB))(L:List HB)(k:Nat):(more nodeH es L (k+1)).length=(rowG nodeH es L k).length / 256:=by show ((chunksL (rowG nodeH es L k)).map (whole nodeH 8)).length=_;rw[List.length_map,chunksL_len]
theorem addsP_main{n:Nat}{es:List (List HB)}(hf:fitsP n es):∀(m:Nat) (L:List HB),L.length=m→
 (∀k,(addsP n L (gr0 es)).ls.getD k []=tl k (n / 256 ^ k / 256) (rowG nodeH es L k))∧
 (∀k,((addsP n L (gr0 es)).ts.getD k false=true↔more nodeH es L k≠ []))∧
 (∀k,((addsP n L (gr0 es)).ts.length≤k↔more nodeH es L k= [])):=by
 have hlt:=fits_lt hf;intro m;induction m with
 | zero=>
  intro L hL;have:L= []:=List.length_eq_zero_iff.1 hL;subst this;have h0:∀k,more nodeH es [] k= []:=by
   intro k;induction k with
   | zero=> rfl
   | succ k ih=> rw[more,ih,List.append_nil,chunksL_small (hlt k)];rfl
  refine ⟨fun k=> ?_,fun k=> ?_,fun k=> ?_⟩
  ·show ([]:List (List LaidP)).getD k []=_;unfold tl rowG;rw[h0,List.append_nil,Nat.div_eq_of_lt (hlt k)];rfl
  ·rw[h0];show ([]:List Bool).getD k false=true↔_;simp
  ·rw[h0];show ([]:List Bool).length≤k↔_;simp
 | succ m ih=>
  intro L hL;obtain ⟨L0,x,rfl⟩:∃L0 x,L=L0++ [x]:=by
   rcases List.eq_nil_or_concat L with h | ⟨a,b,h⟩
   ·subst h;simp at hL
   ·exact ⟨a,b,by simpa using h⟩
  obtain ⟨i1,i2,i3⟩:=ih L0 (by simpa using hL);obtain ⟨g1,g2⟩:=grow_main nodeH es hlt L0.length L0 rfl;have hE:(addsP n L0 (gr0 es)).es=L0.foldl (stepE nodeH) es:=addsP_es L0 n (gr0 es) hf;have hfE:fitsP (n+L0.length) (addsP n L0 (gr0 es)).es:=by rw[hE];exact foldl_fits nodeH L0 es n hf
  have hs:=step_main nodeH _ (n+L0.length) x hfE;have hml:=more_len nodeH hf L0;rw[addsP_snoc];generalize addsP n L0 (gr0 es)=G at*;have hge:∀k,G.es.getD k []=restL (rowG nodeH es L0 k):=fun k=> by rw[hE];exact g1 k
  have hrow:∀k,rowG nodeH es (L0++ [x]) k=rowG nodeH es L0 k++(if k≤lead G.es then [cE nodeH k G.es x] else []):=fun k=> by unfold rowG;rw[g2,←hE,List.append_assoc]
  have hmore:∀k,more nodeH es (L0++ [x]) k=more nodeH es L0 k++(if k≤lead G.es then [cE nodeH k G.es x] else []):=fun k=> by rw[g2,←hE]
  have hls:=pushes_ls (n+L0.length) x G hfE (lead G.es+1) (Nat.le_refl _);have hts:=pushes_ts (n+L0.length) (peaksE nodeH G.es) x G (lead G.es+1);unfold addP;rw[←hs.2.2.2.1];refine ⟨fun k=> ?_,fun k=> ?_,fun k=> ?_⟩
  ·rw[hls,i1,hrow];by_cases h1:k≤lead G.es
   ·rw[if_pos h1,tl_snoc];congr 1;by_cases h2:k < lead G.es
    ·have hf255:=lead_full _ k h2;rw[hge] at hf255;rw[if_pos ⟨by omega,h2⟩,if_pos hf255,←hge];have hi:(n+L0.length) / 2 ^ (8*k) / 256=n / 256 ^ k / 256+(rowG nodeH es L0 k).length / 256:=by rw[p8,Nat.div_div_eq_div_mul,Nat.div_div_eq_div_mul,←Nat.pow_succ,hml (k+1),more_row]
     rw[hi]
    ·have h3:k=lead G.es:=by omega
     have hn255:(G.es.getD k []).length≠255:=by rw[h3];exact lead_not _
     rw[hge] at hn255;rw[if_neg (by omega),if_neg hn255]
   ·rw[if_neg h1,if_neg (by omega),List.append_nil,List.append_nil]
  ·rw[hts.2,hmore];by_cases h1:k≤lead G.es
   ·rw[if_pos h1];simp[show k < lead G.es+1 by omega]
   ·rw[if_neg h1,List.append_nil];rw[←i2];simp[show¬k < lead G.es+1 by omega]
  ·rw[hts.1,hmore];by_cases h1:k≤lead G.es
   ·rw[if_pos h1];simp;omega
   ·rw[if_neg h1,List.append_nil,←i3];omega
def lvl(L:List HB)(k:Nat):List HB:=more nodeH [] L k
theorem lvl_len(L:List HB)(k:Nat):(lvl L k).length=L.length / 256 ^ k:=by have h:=more_len nodeH (es:= []) (n:=0) rfl L k;rw[Nat.zero_add,Nat.zero_div,Nat.zero_add] at h;exact h.symm
theorem whole_nest(b:Nat):∀(a:Nat) (l:List HB),l.length=2 ^ (a+b)→whole nodeH a ((List.range (2 ^ a)).map fun j=> whole nodeH b ((l.drop (j*2 ^ b)).take (2 ^ b)))=whole nodeH (a+b) l
 | 0,l,h=> by rw[Nat.zero_add] at h⊢;show (whole nodeH b ((l.drop (0*2 ^ b)).take (2 ^ b)))=_;rw[Nat.zero_mul,List.drop_zero,List.take_of_length_le (by omega)]
 | a+1,l,h=> by
  have hp:2 ^ (a+1+b)=2 ^ (a+b)+2 ^ (a+b):=by rw[show a+1+b=(a+b)+1 by omega,Nat.pow_succ];omega
  have hq:2 ^ (a+1)=2 ^ a+2 ^ a:=by rw[Nat.pow_succ];omega
  have hab:2 ^ (a+b)=2 ^ a*2 ^ b:=Nat.pow_add 2 a b;rw[show a+1+b=(a+b)+1 by omega,whole,whole];have h1:=whole_nest b a (l.take (2 ^ (a+b))) (by rw[List.length_take];omega);have h2:=whole_nest b a (l.drop (2 ^ (a+b))) (by rw[List.length_drop];omega);rw[←h1,←h2];congr 1
  ·congr 1;rw[hq,List.range_add,List.map_append,List.take_append_of_le_length (by simp),List.take_of_length_le (by simp)];refine List.map_congr_left fun j hj=> ?_;have hj:=List.mem_range.1 hj;have hle:j*2 ^ b+2 ^ b≤2 ^ (a+b):=by rw[hab];have:=Nat.mul_le_mul_right (2 ^ b) (show j+1≤2 ^ a by omega);rw[Nat.succ_mul] at this;exact this
   rw[List.drop_take,List.take_take,show min (2 ^ b) (2 ^ (a+b) - j*2 ^ b)=2 ^ b by omega]
  ·congr 1;rw[hq,List.range_add,List.map_append,List.drop_append_of_le_length (by simp),List.drop_of_length_le (by simp),List.nil_append,List.map_map];refine List.map_congr_left fun j hj=> ?_;simp only[Function.comp];rw[List.drop_drop,hab,Nat.add_mul]
theorem lvl_get(L:List HB):∀(k i:Nat),i < L.length / 256 ^ k→(lvl L k).getD i []=whole nodeH (8*k) ((L.drop (i*256 ^ k)).take (256 ^ k))
 | 0,i,h=> by rw[Nat.pow_zero,Nat.div_one] at h;show L.getD i []=_;rw[Nat.pow_zero,Nat.mul_one,List.getD_eq_getElem?_getD,List.getElem?_eq_getElem h,List.drop_eq_getElem_cons h];rfl
 | k+1,i,h=> by
  have hk:(256:Nat) ^ k=2 ^ (8*k):=by rw[Nat.pow_mul]
  have hk1:(256:Nat) ^ (k+1)=256 ^ k*256:=by rw[Nat.pow_succ]
  have hp8:2 ^ (8+8*k)=256 ^ (k+1):=by rw[hk1,Nat.pow_add,←hk,Nat.mul_comm]
  have hR:=lvl_len L k;have hi:i < (lvl L k).length / 256:=by rw[hR,Nat.div_div_eq_div_mul,←hk1];exact h
  have e1:(lvl L (k+1)).getD i []=whole nodeH 8 (chunk (lvl L k) i):=by show ((chunksL (lvl L k)).map (whole nodeH 8)).getD i []=_;rw[List.getD_eq_getElem?_getD,List.getElem?_map,chunksL,List.getElem?_map,List.getElem?_range hi];rfl
  rw[e1];have hlen:((L.drop (i*256 ^ (k+1))).take (256 ^ (k+1))).length=2 ^ (8+8*k):=by have h3:(i+1)*256 ^ (k+1)≤L.length:=Nat.le_trans (Nat.mul_le_mul_right _ h) (Nat.div_mul_le_self _ _);rw[Nat.succ_mul i] at h3;rw[List.length_take,List.length_drop,hp8];omega
  have h2:=whole_nest (8*k) 8 _ hlen;rw[show 8*(k+1)=8+8*k by omega,←h2];congr 1;have hc:(chunk (lvl L k) i).length=256:=by unfold chunk;rw[List.length_take,List.length_drop];omega
  refine List.ext_getElem (by rw[hc];simp) fun j h3 h4=> ?_;rw[hc] at h3;have h5:(chunk (lvl L k) i)[j]'(by rw[hc];exact h3)=(lvl L k).getD (256*i+j) []:=by unfold chunk;rw[List.getElem_take,List.getElem_drop,List.getD_eq_getElem?_getD,List.getElem?_eq_getElem (by omega)];rfl
  rw[h5,lvl_get L k (256*i+j) (by rw[←hR];omega),List.getElem_map,List.getElem_range];congr 1;rw[←hk,hk1,List.drop_take,List.take_take,List.drop_drop];have e2:i*(256 ^ k*256)+j*256 ^ k=(256*i+j)*256 ^ k:=by rw[Nat.add_mul,Nat.mul_comm 256 i,Nat.mul_assoc,Nat.mul_comm 256 (256 ^ k)]
  have e3:j*256 ^ k+256 ^ k≤256 ^ k*256:=by have:=Nat.mul_le_mul_right (256 ^ k) (show j+1≤256 by omega);rw[Nat.succ_mul] at this;rw[Nat.mul_comm (256 ^ k) 256];exact this
  rw[e2,show min (256 ^ k) (256 ^ k*256 - j*256 ^ k)=256 ^ k by omega]
theorem tileH_lvl(ls:List (List UInt8))(k i m:Nat)(h:i*256+m≤ls.length / 256 ^ k):tileH ls (k,i,m)=((lvl (leafHs ls) k).drop (256*i)).take m:=by
 have hl:=lvl_len (leafHs ls) k;rw[leafHs_len] at hl;have hk:(256:Nat) ^ k=2 ^ (8*k):=by rw[Nat.pow_mul]
 refine List.ext_getElem (by rw[tileH_len,List.length_take,List.length_drop];show m=_;omega) fun j h1 h2=> ?_;rw[tileH_len] at h1;have h1:j < m:=h1;have e1:(((lvl (leafHs ls) k).drop (256*i)).take m)[j]'h2=(lvl (leafHs ls) k).getD (256*i+j) []:=by rw[List.getElem_take,List.getElem_drop,List.getD_eq_getElem?_getD,List.getElem?_eq_getElem (by omega)];rfl
 rw[e1,lvl_get _ _ _ (by rw[leafHs_len];omega)];have e2:(tileH ls (k,i,m))[j]'(by rw[tileH_len];exact h1)=mthP (segH ls ((i*256+j)*2 ^ (8*k)) (((i*256+j)+1)*2 ^ (8*k))):=(List.getElem_map _).trans (by rw[List.getElem_range]);rw[e2];have h3:(i*256+j+1)*2 ^ (8*k)≤ls.length:=by rw[←hk];exact Nat.le_trans (Nat.mul_le_mul_right _ (Nat.le_trans (Nat.succ_le_of_lt (Nat.add_lt_add_left h1 (i*256))) h)) (Nat.div_mul_le_self _ _)
 have h4:=segH_len ls (b:=(i*256+j)*2 ^ (8*k)) h3;have h5:(i*256+j+1)*2 ^ (8*k)=(i*256+j)*2 ^ (8*k)+2 ^ (8*k):=Nat.succ_mul (i*256+j) (2 ^ (8*k));rw[h5] at h4⊢;rw[mth_pow (8*k) _ (by rw[h4];exact Nat.add_sub_cancel_left _ _)];unfold segH;rw[Nat.add_sub_cancel_left,hk,Nat.mul_comm 256 i]
theorem lvl_app(L:List HB)(k:Nat):∀(m:Nat) (M:List HB),M.length=m→lvl (L++M) k=lvl L k++more nodeH (L.foldl (stepE nodeH) []) M k
 | 0,M,hM=> by
  obtain rfl:=List.length_eq_zero_iff.1 hM;have hf:fitsP L.length (L.foldl (stepE nodeH) []):=by have h9:=foldl_fits nodeH L [] 0 rfl;rwa [Nat.zero_add] at h9
  have h0:=more_len nodeH hf [] k;rw[List.length_nil,Nat.add_zero] at h0;have h1:more nodeH (L.foldl (stepE nodeH) []) [] k= []:=List.length_eq_zero_iff.1 (by omega);rw[h1,List.append_nil,List.append_nil]
 | m+1,M,hM=> by
  have hne:M≠ []:=by intro e;rw[e] at hM;simp at hM
  obtain ⟨M0,h,rfl⟩:∃M0 h,M=M0++ [h]:=⟨M.dropLast,M.getLast hne,(List.dropLast_concat_getLast hne).symm⟩;have ih:=lvl_app L k m M0 (by simpa using hM);have hf:fitsP L.length (L.foldl (stepE nodeH) []):=by have h9:=foldl_fits nodeH L [] 0 rfl;rwa [Nat.zero_add] at h9
  have g1:=(grow_main nodeH [] (fun k=> by simp) _ (L++M0) rfl).2 h k;have g2:=(grow_main nodeH (L.foldl (stepE nodeH) []) (fits_lt hf) _ M0 rfl).2 h k;rw[List.foldl_append] at g1;rw[←List.append_assoc];show more nodeH [] (L++M0++ [h]) k=_;rw[g1,g2,←List.append_assoc];congr 1
theorem more_32n:∀(L:List HB),H32 L→∀k,H32 (more nodeH [] L k)
 | L,h,0=> h
 | L,h,k+1=> fun x hx=> by have hx2:x∈(chunksL (more nodeH [] L k)).map (whole nodeH 8):=hx;obtain ⟨c,hc,rfl⟩:=List.mem_map.1 hx2;obtain ⟨j,hj,rfl⟩:=List.mem_map.1 hc;have hj:=List.mem_range.1 hj;exact whole_len 8 _ (((more_32n L h k).drop _).take _) (by unfold chunk;rw[List.length_take,List.length_drop];omega)
theorem lvl_32(ls:List (List UInt8))(k:Nat):H32 (lvl (leafHs ls) k):=more_32n _ (leafHs_32 ls) k
theorem edges_lvl(L:List HB)(k:Nat):(L.foldl (stepE nodeH) []).getD k []=restL (lvl L k):=by have h:=(grow_main nodeH [] (fun k=> by simp) _ L rfl).1 k;rw[h];rfl
theorem rowG_lvl(L M:List HB)(k:Nat):rowG nodeH (L.foldl (stepE nodeH) []) M k=(lvl (L++M) k).drop (256*((lvl L k).length / 256)):=by rw[lvl_app L k _ M rfl,List.drop_append_of_le_length (by omega)];unfold rowG;rw[edges_lvl];rfl
end Go.Proofs.YtnkcfkjeeennmaaGreatDoor
