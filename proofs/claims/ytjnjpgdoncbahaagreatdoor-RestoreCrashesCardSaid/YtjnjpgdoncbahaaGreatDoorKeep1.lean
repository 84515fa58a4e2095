/- The levels of a log: what its tiles hold; what comes to them where leaves are appended: plain law. The tiles that an append puts are those that the log behind it has and the one ahead of it has not: plain law. Names of leaves, tiles and the checkpoint are never alike: plain law. What an append's puts leave of a log in a store: plain law. A store that holds a log holds it behind an append's puts but the last, and the longer one behind them all: plain law. -/
import Derived.Test.YtjnjpgdoncbahaaGreatDoorAlive25
import Derived.Test.YtjnjpgdoncbahaaGreatDoorWrN
import Derived.Test.YtjnjpgdoncbahaaGreatDoorApD
namespace Go.Proofs.YtjnjpgdoncbahaaGreatDoor
open Go.RowKit Go.Lib
variable {T:TxtL}{a b:List (List UInt8)}{i k m n:Nat}{o:List UInt8}{p:ByteArray×ByteArray}{t:Nat×Nat×Nat}
def lvl(L:List HB)(k:Nat):List HB:=more nodeH [] L k
theorem lvl_len(L:List HB)(k:Nat):(lvl L k).length=L.length / 256 ^ k:=by have h:=more_len nodeH (es:= []) (n:=0) rfl L k;rw[Nat.zero_add,Nat.zero_div,Nat.zero_add] at h;exact h.symm
theorem whole_nest(b:Nat):∀(a:Nat) (l:List HB),l.length=2 ^ (a+b)→whole nodeH a ((List.range (2 ^ a)).map fun j=> whole nodeH b ((l.drop (j*2 ^ b)).take (2 ^ b)))=whole nodeH (a+b) l
 | 0,l,h=> by rw[Nat.zero_add] at h⊢;show (whole nodeH b ((l.drop (0*2 ^ b)).take (2 ^ b)))=_;rw[Nat.zero_mul,List.drop_zero,List.take_of_length_le (by omega)]
 | a+1,l,h=> by
  have hp:2 ^ (a+1+b)=2 ^ (a+b)+2 ^ (a+b):=by rw[show a+1+b=(a+b)+1 by omega,Nat.pow_succ];omega
  have hq:2 ^ (a+1)=2 ^ a+2 ^ a:=by rw[Nat.pow_succ];omega
  have hab:2 ^ (a+b)=2 ^ a*2 ^ b:=Nat.pow_add 2 a b;rw[show a+1+b=(a+b)+1 by omega,whole,whole];have h1:=whole_nest b a (l.take (2 ^ (a+b))) (by rw[List.length_take];omega);have h2:=whole_nest b a (l.drop (2 ^ (a+b))) (by rw[List.length_drop];omega);rw[←h1,←h2];congr 1
  ·congr 1;rw[hq,List.range_add,List.map_append,List.take_append_of_le_length (by simp),List.take_of_length_le (by simp)];refine List.map_congr_left fun j hj=> ?_;have hj:=List.mem_range.1 hj;have hle:j*2 ^ b+2 ^ b≤2 ^ (a+b):=by rw[hab];have:=Nat.mul_le_mul_right (2 ^ b) (show j+1≤2 ^ a by omega);rw[Nat.succ_mul] at this;exact this
   rw[List.drop_take,List.take_take,show min (2 ^ b) (2 ^ (a+b) - j*2 ^ b)=2 ^ b by omega]
  ·congr 1;rw[hq,List.range_add,List.map_append,List.drop_append_of_le_length (by simp),List.drop_of_length_le (by simp),List.nil_append,List.map_map];refine List.map_congr_left fun j hj=> ?_;simp only[Function.comp];rw[List.drop_drop,hab,Nat.add_mul]
theorem lvl_get(L:List HB):∀(k i:Nat),i < L.length / 256 ^ k→(lvl L k).getD i []=whole nodeH (8*k) ((L.drop (i*256 ^ k)).take (256 ^ k))
 | 0,i,h=> by rw[Nat.pow_zero,Nat.div_one] at h;show L.getD i []=_;rw[Nat.pow_zero,Nat.mul_one,List.getD_eq_getElem?_getD,List.getElem?_eq_getElem h,List.drop_eq_getElem_cons h];rfl
 | k+1,i,h=> by
  have hk:(256:Nat) ^ k=2 ^ (8*k):=by rw[Nat.pow_mul]
  have hk1:(256:Nat) ^ (k+1)=256 ^ k*256:=by rw[Nat.pow_succ]
  have hp8:2 ^ (8+8*k)=256 ^ (k+1):=by rw[hk1,Nat.pow_add,←hk,Nat.mul_comm]
  have hR:=lvl_len L k;have hi:i < (lvl L k).length / 256:=by rw[hR,Nat.div_div_eq_div_mul,←hk1];exact h
  have e1:(lvl L (k+1)).getD i []=whole nodeH 8 (chunk (lvl L k) i):=by show ((chunksL (lvl L k)).map (whole nodeH 8)).getD i []=_;rw[List.getD_eq_getElem?_getD,List.getElem?_map,chunksL,List.getElem?_map,List.getElem?_range hi];rfl
  rw[e1];have hlen:((L.drop (i*256 ^ (k+1))).take (256 ^ (k+1))).length=2 ^ (8+8*k):=by have h3:(i+1)*256 ^ (k+1)≤L.length:=Nat.le_trans (Nat.mul_le_mul_right _ h) (Nat.div_mul_le_self _ _);rw[Nat.succ_mul i] at h3;rw[List.length_take,List.length_drop,hp8];omega
  have h2:=whole_nest (8*k) 8 _ hlen;rw[show 8*(k+1)=8+8*k by omega,←h2];congr 1;have hc:(chunk (lvl L k) i).length=256:=by unfold chunk;rw[List.length_take,List.length_drop];omega
  refine List.ext_getElem (by rw[hc];simp) fun j h3 h4=> ?_;rw[hc] at h3;have h5:(chunk (lvl L k) i)[j]'(by rw[hc];exact h3)=(lvl L k).getD (256*i+j) []:=by unfold chunk;rw[List.getElem_take,List.getElem_drop,List.getD_eq_getElem?_getD,List.getElem?_eq_getElem (by omega)];rfl
  rw[h5,lvl_get L k (256*i+j) (by rw[←hR];omega),List.getElem_map,List.getElem_range];congr 1;rw[←hk,hk1,List.drop_take,List.take_take,List.drop_drop];have e2:i*(256 ^ k*256)+j*256 ^ k=(256*i+j)*256 ^ k:=by rw[Nat.add_mul,Nat.mul_comm 256 i,Nat.mul_assoc,Nat.mul_comm 256 (256 ^ k)]
  have e3:j*256 ^ k+256 ^ k≤256 ^ k*256:=by have:=Nat.mul_le_mul_right (256 ^ k) (show j+1≤256 by omega);rw[Nat.succ_mul] at this;rw[Nat.mul_comm (256 ^ k) 256];exact this
  rw[e2,show min (256 ^ k) (256 ^ k*256 - j*256 ^ k)=256 ^ k by omega]
theorem tileH_lvl(ls:List (List UInt8))(k i m:Nat)(h:i*256+m≤ls.length / 256 ^ k):tileH ls (k,i,m)=((lvl (leafHs ls) k).drop (256*i)).take m:=by
 have hl:=lvl_len (leafHs ls) k;rw[leafHs_len] at hl;have hk:(256:Nat) ^ k=2 ^ (8*k):=by rw[Nat.pow_mul]
 refine List.ext_getElem (by rw[tileH_len,List.length_take,List.length_drop];show m=_;omega) fun j h1 h2=> ?_;rw[tileH_len] at h1;have h1:j < m:=h1;have e1:(((lvl (leafHs ls) k).drop (256*i)).take m)[j]'h2=(lvl (leafHs ls) k).getD (256*i+j) []:=by rw[List.getElem_take,List.getElem_drop,List.getD_eq_getElem?_getD,List.getElem?_eq_getElem (by omega)];rfl
 rw[e1,lvl_get _ _ _ (by rw[leafHs_len];omega)];have e2:(tileH ls (k,i,m))[j]'(by rw[tileH_len];exact h1)=mthP (segH ls ((i*256+j)*2 ^ (8*k)) (((i*256+j)+1)*2 ^ (8*k))):=(List.getElem_map _).trans (by rw[List.getElem_range]);rw[e2];have h3:(i*256+j+1)*2 ^ (8*k)≤ls.length:=by rw[←hk];exact Nat.le_trans (Nat.mul_le_mul_right _ (Nat.le_trans (Nat.succ_le_of_lt (Nat.add_lt_add_left h1 (i*256))) h)) (Nat.div_mul_le_self _ _)
 have h4:=segH_len ls (b:=(i*256+j)*2 ^ (8*k)) h3;have h5:(i*256+j+1)*2 ^ (8*k)=(i*256+j)*2 ^ (8*k)+2 ^ (8*k):=Nat.succ_mul (i*256+j) (2 ^ (8*k));rw[h5] at h4⊢;rw[mth_pow (8*k) _ (by rw[h4];exact Nat.add_sub_cancel_left _ _)];unfold segH;rw[Nat.add_sub_cancel_left,hk,Nat.mul_comm 256 i]
theorem lvl_app(L:List HB)(k:Nat):∀(m:Nat) (M:List HB),M.length=m→lvl (L++M) k=lvl L k++more nodeH (L.foldl (stepE nodeH) []) M k
 | 0,M,hM=> by
  obtain rfl:=List.length_eq_zero_iff.1 hM;have hf:fitsP L.length (L.foldl (stepE nodeH) []):=by have h9:=foldl_fits nodeH L [] 0 rfl;rwa [Nat.zero_add] at h9
  have h0:=more_len nodeH hf [] k;rw[List.length_nil,Nat.add_zero] at h0;have h1:more nodeH (L.foldl (stepE nodeH) []) [] k= []:=List.length_eq_zero_iff.1 (by omega);rw[h1,List.append_nil,List.append_nil]
 | m+1,M,hM=> by
  have hne:M≠ []:=by intro e;rw[e] at hM;simp at hM
  obtain ⟨M0,h,rfl⟩:∃M0 h,M=M0++ [h]:=⟨M.dropLast,M.getLast hne,(List.dropLast_concat_getLast hne).symm⟩;have ih:=lvl_app L k m M0 (by simpa using hM);have hf:fitsP L.length (L.foldl (stepE nodeH) []):=by have h9:=foldl_fits nodeH L [] 0 rfl;rwa [Nat.zero_add] at h9
  have g1:=(grow_main nodeH [] (fun k=> by simp) _ (L++M0) rfl).2 h k;have g2:=(grow_main nodeH (L.foldl (stepE nodeH) []) (fits_lt hf) _ M0 rfl).2 h k;rw[List.foldl_append] at g1;rw[←List.append_assoc];show more nodeH [] (L++M0++ [h]) k=_;rw[g1,g2,←List.append_assoc];congr 1
theorem more_32n:∀(L:List HB),H32 L→∀k,H32 (more nodeH [] L k)
 | L,h,0=> h
 | L,h,k+1=> fun x hx=> by have hx2:x∈(chunksL (more nodeH [] L k)).map (whole nodeH 8):=hx;obtain ⟨c,hc,rfl⟩:=List.mem_map.1 hx2;obtain ⟨j,hj,rfl⟩:=List.mem_map.1 hc;have hj:=List.mem_range.1 hj;exact whole_len 8 _ (((more_32n L h k).drop _).take _) (by unfold chunk;rw[List.length_take,List.length_drop];omega)
theorem lvl_32(ls:List (List UInt8))(k:Nat):H32 (lvl (leafHs ls) k):=more_32n _ (leafHs_32 ls) k
theorem edges_lvl(L:List HB)(k:Nat):(L.foldl (stepE nodeH) []).getD k []=restL (lvl L k):=by have h:=(grow_main nodeH [] (fun k=> by simp) _ L rfl).1 k;rw[h];rfl
theorem rowG_lvl(L M:List HB)(k:Nat):rowG nodeH (L.foldl (stepE nodeH) []) M k=(lvl (L++M) k).drop (256*((lvl L k).length / 256)):=by rw[lvl_app L k _ M rfl,List.drop_append_of_le_length (by omega)];unfold rowG;rw[edges_lvl];rfl
theorem new_arith(k S S' q W:Nat)(hq:q=S / 256)(hS:S≤S')(hW:W=S' - 256*q):
 (List.range (W / 256)).map (fun j=> (k,q+j,256))++(if S'≠S∧W % 256≠0 then [(k,S' / 256,W % 256)] else [])=
  ((List.range ((S'+255) / 256)).map (fun i=> (k,i,min (S' - i*256) 256))).filter (fun t=> decide (¬(t.2.1*256 < S∧t.2.2=min (S - t.2.1*256) 256))):=by
 rw[List.filter_map];by_cases h:S'=S
 ·subst h;rw[show W / 256=0 by omega,if_neg (by simp)];have h0:(List.range ((S'+255) / 256)).filter ((fun t:Nat×Nat×Nat=> decide (¬(t.2.1*256 < S'∧t.2.2=min (S' - t.2.1*256) 256)))∘fun i=> (k,i,min (S' - i*256) 256))= []:=by rw[List.filter_eq_nil_iff];intro i hi;have hi:=List.mem_range.1 hi;simp only[Function.comp,decide_eq_true_eq];intro h9;exact h9 ⟨by omega,trivial⟩
  rw[h0];rfl
 ·have hx:(S'+255) / 256=q+(W+255) / 256:=by omega
  rw[hx,List.range_add,List.filter_append,List.map_append];have h0:(List.range q).filter ((fun t:Nat×Nat×Nat=> decide (¬(t.2.1*256 < S∧t.2.2=min (S - t.2.1*256) 256)))∘fun i=> (k,i,min (S' - i*256) 256))= []:=by rw[List.filter_eq_nil_iff];intro i hi;have hi:=List.mem_range.1 hi;simp only[Function.comp,decide_eq_true_eq];intro h9;exact h9 ⟨by omega,by omega⟩
  have h1:((List.range ((W+255) / 256)).map (fun x=> q+x)).filter ((fun t:Nat×Nat×Nat=> decide (¬(t.2.1*256 < S∧t.2.2=min (S - t.2.1*256) 256)))∘fun i=> (k,i,min (S' - i*256) 256))=(List.range ((W+255) / 256)).map (fun x=> q+x):=by rw[List.filter_eq_self];intro i hi;obtain ⟨x,hx2,rfl⟩:=List.mem_map.1 hi;have hx2:=List.mem_range.1 hx2;simp only[Function.comp,decide_eq_true_eq];intro h9;have h8:=h9.1;have h7:min (S' - (q+x)*256) 256=min (S - (q+x)*256) 256:=h9.2;omega
  rw[h0,h1,List.map_nil,List.nil_append,List.map_map];by_cases hm:W % 256=0
  ·rw[if_neg (by omega),List.append_nil,show (W+255) / 256=W / 256 by omega];refine List.map_congr_left fun j hj=> ?_;have hj:=List.mem_range.1 hj;simp only[Function.comp];rw[show min (S' - (q+j)*256) 256=256 by omega]
  ·rw[if_pos ⟨h,hm⟩,show (W+255) / 256=W / 256+1 by omega,List.range_succ,List.map_append,List.map_singleton];congr 1
   ·refine List.map_congr_left fun j hj=> ?_;have hj:=List.mem_range.1 hj;simp only[Function.comp];rw[show min (S' - (q+j)*256) 256=256 by omega]
   ·simp only[Function.comp];rw[show q+W / 256=S' / 256 by omega,show min (S' - S' / 256*256) 256=W % 256 by omega]
theorem allT_has{K:Nat}(hk:k < K)(hi:i*256 < n / 2 ^ (8*k)):(k,i,min (n / 2 ^ (8*k) - i*256) 256)∈allT n K:=by
 induction K with
 | zero=> omega
 | succ K ih=>
  rw[allT];rcases Nat.lt_or_ge k K with h | h
  ·exact List.mem_append_left _ (ih h)
  ·have:k=K:=by omega
   subst this;refine List.mem_append_right _ (List.mem_map.2 ⟨i,List.mem_range.2 (by omega),rfl⟩)
theorem allT_iff(hk:k < 3):(k,i,m)∈allT n 3↔i*256 < n / 2 ^ (8*k)∧m=min (n / 2 ^ (8*k) - i*256) 256:=by refine ⟨fun h=> (allT_mem h).2,fun h=> ?_⟩;rw[h.2];exact allT_has hk h.1
def prj(t:LaidP):Nat×Nat×Nat:=(t.1,t.2.1,t.2.2.1)
def edgesP(ls:List (List UInt8)):List (List HB):=(leafHs ls).foldl (stepE nodeH) []
theorem edgesP_fits(ls:List (List UInt8)):fitsP ls.length (edgesP ls):=by have h9:=foldl_fits nodeH (leafHs ls) [] 0 rfl;rwa [Nat.zero_add,leafHs_len] at h9
theorem leafHs_app(a b:List (List UInt8)):leafHs (a++b)=leafHs a++leafHs b:=by simp[leafHs]
theorem edgesP_app(a b:List (List UInt8)):(leafHs b).foldl (stepE nodeH) (edgesP a)=edgesP (a++b):=by unfold edgesP;rw[leafHs_app,List.foldl_append]
theorem tileK_new(a b:List (List UInt8))(k:Nat)(hk:k < 3):
 (tileK (a.length+b.length) (appG a.length (edgesP a) b) k).map prj=(rowTl (a.length+b.length) k).filter (fun t=> decide (t∉allT a.length 3))∧
 ∀t∈tileK (a.length+b.length) (appG a.length (edgesP a) b) k,t.2.2.2=tileH (a++b) (prj t):=by
 have hf:=edgesP_fits a;obtain ⟨g1,g2,g3⟩:=addsP_main hf (leafHs b).length (leafHs b) rfl;have hE:(appG a.length (edgesP a) b).es=(leafHs b).foldl (stepE nodeH) (edgesP a):=addsP_es (leafHs b) a.length (gr0 (edgesP a)) hf;have hR0:=(grow_main nodeH (edgesP a) (fits_lt hf) _ (leafHs b) rfl).1 k;have hrow:rowG nodeH (edgesP a) (leafHs b) k=(lvl (leafHs (a++b)) k).drop (256*((lvl (leafHs a) k).length / 256)):=by rw[leafHs_app];exact rowG_lvl (leafHs a) (leafHs b) k
 have hlm:=more_len nodeH hf (leafHs b) k;rw[leafHs_len] at hlm;have hla:=lvl_len (leafHs a) k;have hlb:=lvl_len (leafHs (a++b)) k;rw[leafHs_len] at hla hlb;rw[List.length_append] at hlb;have h1:=g1 k;have h2:=g2 k;have hp:=p8 k;obtain ⟨S,hS⟩:∃S,S=a.length / 256 ^ k:=⟨_,rfl⟩;obtain ⟨S',hS'⟩:∃S',S'=(a.length+b.length) / 256 ^ k:=⟨_,rfl⟩;rw[←hS'] at hlm hlb;rw[←hS] at hlm hla h1;rw[hla] at hrow;obtain ⟨R,hR⟩:∃R,R=rowG nodeH (edgesP a) (leafHs b) k:=⟨_,rfl⟩;rw[←hR] at h1 hR0 hrow;have hW:R.length=S' - 256*(S / 256):=by rw[hrow,List.length_drop,hlb]
 have hrl:=restL_len R;have hts:(appG a.length (edgesP a) b).ts.getD k false=true↔S'≠S:=by refine h2.trans ?_;rw[←List.length_pos_iff];omega
 have hls:(appG a.length (edgesP a) b).ls.getD k []=tl k (S / 256) R:=h1;have hes:(appG a.length (edgesP a) b).es.getD k []=restL R:=by rw[hE];exact hR0
 have hrange:256*(S / 256)+R.length=S':=by omega
 unfold tileK;rw[hls,hes,hp,←hS'];refine ⟨?_,?_⟩
 ·have hfil:(rowTl (a.length+b.length) k).filter (fun t=> decide (t∉allT a.length 3))=(rowTl (a.length+b.length) k).filter (fun t=> decide (¬(t.2.1*256 < S∧t.2.2=min (S - t.2.1*256) 256))):=by refine List.filter_congr fun t ht=> ?_;obtain ⟨t1,_⟩:=rowTl_mem ht;obtain ⟨tk,ti,tm⟩:=t;obtain rfl:tk=k:=t1;have:=allT_iff (n:=a.length) (i:=ti) (m:=tm) hk;rw[hp,←hS] at this;simp only[this]
  rw[hfil];have hrt:rowTl (a.length+b.length) k=(List.range ((S'+255) / 256)).map (fun i=> (k,i,min (S' - i*256) 256)):=by unfold rowTl;rw[hp,←hS']
  rw[hrt,←new_arith k S S' (S / 256) R.length rfl (by omega) hW,List.map_append];congr 1
  ·unfold tl;rw[List.map_map];rfl
  ·rw[hrl];by_cases hc:S'≠S∧R.length % 256≠0
   ·rw[if_pos ⟨hts.2 hc.1,hc.2⟩,if_pos hc];rfl
   ·rw[if_neg (fun h=> hc ⟨hts.1 h.1,h.2⟩),if_neg hc];rfl
 ·intro t ht;have hlv:∀i m:Nat,i*256+m≤S'→tileH (a++b) (k,i,m)=((lvl (leafHs (a++b)) k).drop (256*i)).take m:=fun i m h=> tileH_lvl (a++b) k i m (by rw[List.length_append,←hS'];exact h);rcases List.mem_append.1 ht with h | h
  ·unfold tl at h;obtain ⟨j,hj,rfl⟩:=List.mem_map.1 h;have hj:=List.mem_range.1 hj;show chunk R j=tileH (a++b) (k,S / 256+j,256);rw[hlv _ _ (by omega),hrow];unfold chunk;rw[List.drop_drop,Nat.mul_add]
  ·split at h
   ·obtain rfl:=List.mem_singleton.1 h;show restL R=tileH (a++b) (k,S' / 256,(restL R).length);rw[hlv _ _ (by rw[hrl];omega)];have e1:256*(S' / 256)=256*(S / 256)+256*(R.length / 256):=by omega
    have e2:restL R=(lvl (leafHs (a++b)) k).drop (256*(S' / 256)):=by unfold restL;rw[e1,←List.drop_drop,←hrow]
    rw[e2,List.take_of_length_le (Nat.le_refl _)]
   ·cases h
theorem filter_allT(n n':Nat):∀K,(allT n' K).filter (fun t=> decide (t∉allT n 3))=((List.range K).map (fun k=> (rowTl n' k).filter (fun t=> decide (t∉allT n 3)))).flatten
 | 0=> rfl
 | K+1=> by show (allT n' K++rowTl n' K).filter _=_;rw[List.filter_append,filter_allT n n' K,List.range_succ,List.map_append,List.flatten_append];simp
theorem tiles_new(a b:List (List UInt8))(hn:a.length+b.length≤1048576):
 (tilesP (a.length+b.length) (appG a.length (edgesP a) b) (appG a.length (edgesP a) b).ts.length).map prj=newT a.length (a.length+b.length)∧
 ∀t∈tilesP (a.length+b.length) (appG a.length (edgesP a) b) (appG a.length (edgesP a) b).ts.length,t.2.2.2=tileH (a++b) (prj t):=by
 have hf:=edgesP_fits a;obtain ⟨g1,g2,g3⟩:=addsP_main hf (leafHs b).length (leafHs b) rfl;have h3:(appG a.length (edgesP a) b).ts.length≤3:=by refine (g3 3).2 ?_;have hlm:=more_len nodeH hf (leafHs b) 3;rw[leafHs_len] at hlm;have h0:(a.length+b.length) / 256 ^ 3=0:=Nat.div_eq_of_lt (by omega);exact List.length_eq_zero_iff.1 (by omega)
 obtain ⟨K,hK⟩:∃K,K=(appG a.length (edgesP a) b).ts.length:=⟨_,rfl⟩;rw[←hK] at h3⊢;have hnil:∀k,K≤k→k < 3→(rowTl (a.length+b.length) k).filter (fun t=> decide (t∉allT a.length 3))= []:=fun k h1 h2=> by
  rw[←(tileK_new a b k h2).1];have hm:=(g3 k).1 (by show (appG a.length (edgesP a) b).ts.length≤k;rw[←hK];exact h1);unfold tileK;have e1:(appG a.length (edgesP a) b).ls.getD k []= []:=by have e2:(appG a.length (edgesP a) b).ls.getD k []=tl k (a.length / 256 ^ k / 256) (rowG nodeH (edgesP a) (leafHs b) k):=g1 k;rw[e2];unfold tl rowG;rw[hm,List.append_nil,Nat.div_eq_of_lt (fits_lt hf k)];rfl
  rw[e1,if_neg (fun h=> (g2 k).1 h.1 hm)];rfl
 refine ⟨?_,fun t ht=> ?_⟩
 ·unfold newT;have e3:(allT (a.length+b.length) 3).filter (fun t=> decide (t∉allT a.length 3))=(allT (a.length+b.length) K).filter (fun t=> decide (t∉allT a.length 3)):=by
   rw[filter_allT,filter_allT,show 3=K+(3 - K) by omega,List.range_add,List.map_append,List.flatten_append];have e4:(List.map (fun k=> (rowTl (a.length+b.length) k).filter (fun t=> decide (t∉allT a.length (K+(3 - K))))) ((List.range (3 - K)).map (fun x=> K+x))).flatten= []:=by rw[List.flatten_eq_nil_iff];intro l hl;obtain ⟨k,hk,rfl⟩:=List.mem_map.1 hl;obtain ⟨x,hx,rfl⟩:=List.mem_map.1 hk;have hx:=List.mem_range.1 hx;rw[show K+(3 - K)=3 by omega];exact hnil _ (by omega) (by omega)
   rw[e4,List.append_nil]
  rw[e3,filter_allT];unfold tilesP;rw[List.map_flatten,List.map_map];congr 1;refine List.map_congr_left fun k hk=> ?_;have hk:=List.mem_range.1 hk;exact (tileK_new a b k (by omega)).1
 ·unfold tilesP at ht;obtain ⟨l,hl,h⟩:=List.mem_flatten.1 ht;obtain ⟨k,hk,rfl⟩:=List.mem_map.1 hl;have hk:=List.mem_range.1 hk;exact (tileK_new a b k (by omega)).2 t h
def isDig(c:UInt8):Bool:=decide (48≤c.toNat∧c.toNat≤57)
def dvS(a:Nat)(c:UInt8):Nat:=if isDig c then 10*a+(c.toNat - 48) else a
def dv(a:Nat)(l:List UInt8):Nat:=l.foldl dvS a
theorem dv_app(a:Nat)(l m:List UInt8):dv a (l++m)=dv (dv a l) m:=by unfold dv;rw[List.foldl_append]
theorem dig_nat(d:Nat)(h:d < 10):(UInt8.ofNat (48+d)).toNat=48+d:=by rw[UInt8.toNat_ofNat_of_lt' (by show 48+d < 256;omega)]
theorem dec_dig:∀(n:Nat),dv 0 (Lib.decDigits n)=n∧∀c∈Lib.decDigits n,isDig c=true:=by
 intro n;induction n using Nat.strongRecOn with
 | ind n ih=>
  by_cases h:n < 10
  ·rw[Lib.decDigits_one h];have h1:=dig_nat n h;have h2:isDig (UInt8.ofNat (48+n))=true:=by unfold isDig;rw[h1];exact decide_eq_true ⟨by omega,by omega⟩
   refine ⟨?_,fun c hc=> by rw[List.mem_singleton.1 hc];exact h2⟩;show dvS 0 _=n;unfold dvS;rw[if_pos h2,h1];omega
  ·have e:Lib.decDigits n=Lib.decDigits (n / 10)++ [UInt8.ofNat (48+n % 10)]:=by rw[Lib.decDigits,dif_neg h]
   obtain ⟨i1,i2⟩:=ih (n / 10) (by omega);have h1:=dig_nat (n % 10) (by omega);have h2:isDig (UInt8.ofNat (48+n % 10))=true:=by unfold isDig;rw[h1];exact decide_eq_true ⟨by omega,by omega⟩
   rw[e];refine ⟨?_,fun c hc=> ?_⟩
   ·rw[dv_app,i1];show dvS (n / 10) _=n;unfold dvS;rw[if_pos h2,h1];omega
   ·rcases List.mem_append.1 hc with h3 | h3
    ·exact i2 c h3
    ·rw[List.mem_singleton.1 h3];exact h2
theorem dec_inj(h:Lib.decDigits m=Lib.decDigits n):m=n:=by rw[←(dec_dig m).1,h,(dec_dig n).1]
theorem dv_grpF:∀(n a:Nat) (l:List UInt8),dv a (grpF n l)=dv a l
 | 0,a,l=> rfl
 | n+1,a,l=> by
  unfold grpF;split
  ·rfl
  ·show dv (dvS a 120) (l.take 3++47::grpF n (l.drop 3))=_;rw[show dvS a 120=a from rfl,dv_app];show dv (dvS (dv a (l.take 3)) 47) (grpF n (l.drop 3))=_;rw[show dvS (dv a (l.take 3)) 47=dv a (l.take 3) from rfl,dv_grpF n,←dv_app,List.take_append_drop]
theorem dv_zeros:∀z,dv 0 (List.replicate z (48:UInt8))=0
 | 0=> rfl
 | z+1=> by rw[List.replicate_succ];exact dv_zeros z
theorem grp_val(i:Nat):dv 0 (grp (pad3 (Lib.decDigits i)))=i:=by unfold grp;rw[dv_grpF];unfold pad3;rw[dv_app,dv_zeros,(dec_dig i).1]
theorem grpF_mem:∀(n:Nat) (l:List UInt8),∀c∈grpF n l,c=120∨c=47∨c∈l
 | 0,l,c,h=> .inr (.inr h)
 | n+1,l,c,h=> by
  unfold grpF at h;split at h
  ·exact .inr (.inr h)
  ·rcases List.mem_cons.1 h with h | h
   ·exact .inl h
   ·rcases List.mem_append.1 h with h | h
    ·exact .inr (.inr (List.mem_of_mem_take h))
    ·rcases List.mem_cons.1 h with h | h
     ·exact .inr (.inl h)
     ·rcases grpF_mem n _ c h with h | h | h
      ·exact .inl h
      ·exact .inr (.inl h)
      ·exact .inr (.inr (List.mem_of_mem_drop h))
theorem dec_not(n:Nat)(c:UInt8)(hc:isDig c=false):c∉Lib.decDigits n:=fun h=> by have:=(dec_dig n).2 c h;rw[hc] at this;cases this
theorem grp_no(i:Nat):(46:UInt8)∉grp (pad3 (Lib.decDigits i)):=fun h=> by
 rcases grpF_mem _ _ _ h with h | h | h
 ·exact absurd h (by decide)
 ·exact absurd h (by decide)
 ·unfold pad3 at h;rcases List.mem_append.1 h with h | h
  ·exact absurd (List.eq_of_mem_replicate h) (by decide)
  ·exact dec_not i 46 (by decide) h
theorem cut_at{c:UInt8}:∀{A A' X X':List UInt8},c∉A→c∉A'→A++c::X=A'++c::X'→A=A'∧X=X'
 | [],[],X,X',_,_,h=> ⟨rfl,by simpa using h⟩
 | [],b::A',X,X',_,h2,h=> by simp only[List.nil_append,List.cons_append,List.cons.injEq] at h;exact absurd (by rw[h.1];exact List.mem_cons_self) h2
 | a::A,[],X,X',h1,_,h=> by simp only[List.nil_append,List.cons_append,List.cons.injEq] at h;exact absurd (by rw[h.1];exact List.mem_cons_self) h1
 | a::A,b::A',X,X',h1,h2,h=> by simp only[List.cons_append,List.cons.injEq] at h;obtain ⟨e1,e2⟩:=cut_at (A:=A) (A':=A') (fun m=> h1 (List.mem_cons_of_mem _ m)) (fun m=> h2 (List.mem_cons_of_mem _ m)) h.2;exact ⟨by rw[h.1,e1],e2⟩
theorem pathB_inj{w k' i' w':Nat}(hw:w≤256)(hw':w'≤256)(h:pathB k i w=pathB k' i' w'):k=k'∧i=i'∧w=w':=by
 unfold pathB at h;simp only[List.append_assoc] at h;have h:=List.append_cancel_left h;obtain ⟨e1,e2⟩:=cut_at (c:=47) (dec_not k 47 (by decide)) (dec_not k' 47 (by decide)) h;have e2:grp (pad3 (Lib.decDigits i))++(if w < 256 then [46,112,47]++Lib.decDigits w else [])=grp (pad3 (Lib.decDigits i'))++(if w' < 256 then [46,112,47]++Lib.decDigits w' else []):=e2;have hk:=dec_inj e1;by_cases c1:w < 256
 ·by_cases c2:w' < 256
  ·rw[if_pos c1,if_pos c2] at e2;obtain ⟨e3,e4⟩:=cut_at (c:=46) (grp_no i) (grp_no i') e2;have hi:i=i':=by rw[←grp_val i,e3,grp_val]
   have hd:Lib.decDigits w=Lib.decDigits w':=by simpa using e4
   exact ⟨hk,hi,dec_inj hd⟩
  ·rw[if_pos c1,if_neg c2,List.append_nil] at e2;exact absurd (by rw[←e2];simp) (grp_no i')
 ·by_cases c2:w' < 256
  ·rw[if_neg c1,if_pos c2,List.append_nil] at e2;exact absurd (by rw[e2];simp) (grp_no i)
  ·rw[if_neg c1,if_neg c2,List.append_nil,List.append_nil] at e2;have hi:i=i':=by rw[←grp_val i,e2,grp_val]
   exact ⟨hk,hi,by omega⟩
theorem str_inj{a b:List UInt8}(h:str a=str b):a=b:=by have:=congrArg (fun s:ByteArray=> s.data.toList) h;simpa using this
theorem leafN_str(i:Nat):leafN i=str (leafB++Lib.decDigits i):=by unfold leafN;apply ByteArray.ext;simp[str]
theorem leafN_inj{j:Nat}(h:leafN i=leafN j):i=j:=by rw[leafN_str,leafN_str] at h;exact dec_inj (List.append_cancel_left (str_inj h))
theorem leafN_path(j k i w:Nat):leafN j≠str (pathB k i w):=fun h=> by rw[leafN_str] at h;have:=congrArg List.head? (str_inj h);unfold pathB at this;simp[leafB,tileB] at this
theorem leafN_head(j:Nat):leafN j≠str headB:=fun h=> by rw[leafN_str] at h;have:=congrArg List.head? (str_inj h);simp[leafB,headB] at this
theorem path_head(k i w:Nat):str (pathB k i w)≠str headB:=fun h=> by have:=congrArg List.head? (str_inj h);unfold pathB at this;simp[tileB,headB] at this
def putTs(T:TxtL)(ps:List (ByteArray×ByteArray)):TxtL:=ps.foldl (fun T p=> putL T p.1 p.2) T
theorem putTs_app(T:TxtL)(a b:List (ByteArray×ByteArray)):putTs T (a++b)=putTs (putTs T a) b:=by unfold putTs;rw[List.foldl_append]
theorem putTs_snoc(T:TxtL)(a:List (ByteArray×ByteArray))(p:ByteArray×ByteArray):putTs T (a++ [p])=putL (putTs T a) p.1 p.2:=by rw[putTs_app];rfl
theorem look_none:∀(ps:List (ByteArray×ByteArray)) (T:TxtL) (s:ByteArray),(∀p∈ps,p.1≠s)→lookL (putTs T ps) s=lookL T s
 | [],T,s,h=> rfl
 | p::ps,T,s,h=> by show lookL (putTs (putL T p.1 p.2) ps) s=_;rw[look_none ps _ s (fun q hq=> h q (List.mem_cons_of_mem _ hq)),lookL_put,if_neg (fun e=> h p List.mem_cons_self e.symm)]
theorem look_some:∀(ps:List (ByteArray×ByteArray)) (T:TxtL) (s t:ByteArray),(∃p∈ps,p.1=s)→(∀p∈ps,p.1=s→p.2=t)→lookL (putTs T ps) s=some t
 | [],T,s,t,h,_=> by obtain ⟨p,hp,_⟩:=h;cases hp
 | p::ps,T,s,t,h,h2=> by
  show lookL (putTs (putL T p.1 p.2) ps) s=_;by_cases hc:∃q∈ps,q.1=s
  ·exact look_some ps _ s t hc (fun q hq=> h2 q (List.mem_cons_of_mem _ hq))
  ·rw[look_none ps _ s (fun q hq e=> hc ⟨q,hq,e⟩),lookL_put];obtain ⟨q,hq,e⟩:=h;rcases List.mem_cons.1 hq with rfl | hq
   ·rw[if_pos e.symm,h2 q List.mem_cons_self e]
   ·exact absurd ⟨q,hq,e⟩ hc
def allPuts(o:List UInt8)(a b:List (List UInt8)):List (ByteArray×ByteArray):=appPuts a.length (edgesP a) b++ [(str headB,str (ckptB o (a.length+b.length) (mthP (leafHs (a++b)))))]
theorem appG_root(a b:List (List UInt8)):rootE (appG a.length (edgesP a) b).es=mthP (leafHs (a++b)):=by have hE:(appG a.length (edgesP a) b).es=(leafHs b).foldl (stepE nodeH) (edgesP a):=addsP_es (leafHs b) a.length (gr0 (edgesP a)) (edgesP_fits a);rw[hE,edgesP_app];exact root_mth _
theorem appR_all(x:StD)(o:List UInt8)(a b:List (List UInt8)):appR x o a.length (edgesP a) b=putsL (x,none) (allPuts o a b):=by unfold appR allPuts;rw[putsL_snoc,appG_root]
def NmOk(ps:List (ByteArray×ByteArray)):Prop:=∀p∈ps,1≤p.1.size∧p.1.size≤256
theorem put_fine{x:StD}(hd:x.dead=false)(hp:1≤p.1.size∧p.1.size≤256)(h1:x.crash≠(x.nw:Int)+1)(h2:x.crash≠ -((x.nw:Int)+1)):putP (x,none) p=({x with nw:=x.nw+1,texts:=putL x.texts p.1 p.2},none):=by unfold putP;show x.put p.1 p.2=_;unfold StD.put StD.refuse nameOk;rw[if_pos (decide_eq_true hp),hd];simp[h1,h2]
theorem puts_fine:∀(ps:List (ByteArray×ByteArray)) (x:StD),x.dead=false→NmOk ps→(∀j,j < ps.length→x.crash≠(x.nw:Int)+j+1∧x.crash≠ -((x.nw:Int)+j+1))→putsL (x,none) ps=({x with nw:=x.nw+ps.length,texts:=putTs x.texts ps},none)
 | [],x,hd,hn,hc=> rfl
 | p::ps,x,hd,hn,hc=> by
  have h0:=hc 0 (by simp);show putsL (putP (x,none) p) ps=_;rw[put_fine hd (hn p List.mem_cons_self) (by simpa using h0.1) (by simpa using h0.2)];refine (puts_fine ps {x with nw:=x.nw+1,texts:=putL x.texts p.1 p.2} hd (fun q hq=> hn q (List.mem_cons_of_mem _ hq)) (fun j hj=> by
   have h1:=hc (j+1) (by simpa using hj);have e:(((x.nw+1:Nat):Int))+(j:Int)+1=(x.nw:Int)+((j+1:Nat):Int)+1:=by omega
   show x.crash≠((x.nw+1:Nat):Int)+j+1∧x.crash≠ -(((x.nw+1:Nat):Int)+j+1);rw[e];exact h1)).trans ?_
  show (({x with nw:=x.nw+1+ps.length,texts:=putTs (putL x.texts p.1 p.2) ps}:StD),none)=_;rw[List.length_cons,show x.nw+1+ps.length=x.nw+(ps.length+1) by omega];rfl
theorem puts_stuck:∀(ps:List (ByteArray×ByteArray)) (x:StD) (e:Nat×Option Int),putsL (x,some e) ps=(x,some e)
 | [],_,_=> rfl
 | _::ps,x,e=> puts_stuck ps x e
theorem puts_crash(ps:List (ByteArray×ByteArray))(x:StD)(hd:x.dead=false)(hn:NmOk ps)(j:Nat)(hj:j < ps.length)(hc:x.crash=(x.nw:Int)+j+1∨x.crash= -((x.nw:Int)+j+1)):
 putsL (x,none) ps=({x with nw:=x.nw+j+1,texts:=putTs x.texts (if x.crash < 0 then ps.take (j+1) else ps.take j),dead:=true},some (8,none)):=by
 have hsp:ps=ps.take j++ps[j]::ps.drop (j+1):=by rw[←List.drop_eq_getElem_cons hj,List.take_append_drop]
 have hl:(ps.take j).length=j:=by rw[List.length_take];omega
 have h1:=puts_fine (ps.take j) x hd (fun p hp=> hn p (List.mem_of_mem_take hp)) (fun i hi=> by rw[hl] at hi;omega);have htk:ps.take (j+1)=ps.take j++ [ps[j]]:=List.take_succ_eq_append_getElem hj;have e1:putsL (x,none) ps=putsL (putP (putsL (x,none) (ps.take j)) ps[j]) (ps.drop (j+1)):=by
  conv=> lhs;rw[hsp]
  unfold putsL;rw[List.foldl_append];rfl
 rw[e1,h1,hl];have hok:=hn ps[j] (List.getElem_mem hj);have e2:putP (({x with nw:=x.nw+j,texts:=putTs x.texts (ps.take j)}:StD),none) ps[j]=(({x with nw:=x.nw+j+1,texts:=putTs x.texts (if x.crash < 0 then ps.take (j+1) else ps.take j),dead:=true}:StD),some (8,none)):=by
  unfold putP;show StD.put _ _ _=_;unfold StD.put StD.refuse nameOk;rw[if_pos (decide_eq_true hok)];show (match (if x.dead=true then some (8,none) else none:EV) with | some e=> _ | none=> _)=_;rw[hd];simp only[Bool.false_eq_true,if_false];have hcast:(((x.nw+j:Nat):Int))+1=(x.nw:Int)+j+1:=by omega
  rw[hcast];rcases hc with hc | hc
  ·rw[if_pos hc,if_neg (show¬x.crash < 0 by omega)]
  ·rw[if_neg (show¬x.crash=(x.nw:Int)+j+1 by omega),if_pos hc,if_pos (show x.crash < 0 by omega),htk,putTs_snoc]
 rw[e2,puts_stuck]
theorem segH_pre(a b:List (List UInt8)){x y:Nat}(h:y≤a.length):segH (a++b) x y=segH a x y:=by
 unfold segH;rw[leafHs_app];by_cases hx:x≤(leafHs a).length
 ·rw[List.drop_append_of_le_length hx,List.take_append_of_le_length (by rw[List.length_drop,leafHs_len];omega)]
 ·rw[leafHs_len] at hx;rw[show y - x=0 by omega,List.take_zero,List.take_zero]
theorem segH_all(a:List (List UInt8)):segH a 0 a.length=leafHs a:=by unfold segH;rw[List.drop_zero,Nat.sub_zero,List.take_of_length_le (by rw[leafHs_len];exact Nat.le_refl _)]
theorem tileH_pre(a b:List (List UInt8))(h:t∈allT a.length 3):tileH (a++b) t=tileH a t:=by
 obtain ⟨h1,h2,h3⟩:=allT_mem h;unfold tileH;refine List.map_congr_left fun j hj=> ?_;have hj:=List.mem_range.1 hj;have h4:t.2.1*256+j+1≤a.length / 2 ^ (8*t.1):=by omega
 rw[segH_pre a b (Nat.le_trans (Nat.mul_le_mul_right _ h4) (Nat.div_mul_le_self _ _))]
theorem put_kinds(hn:a.length+b.length≤1048576)(h:p∈appPuts a.length (edgesP a) b):
 (∃j s,b[j]? =some s∧p=(leafN (a.length+j),str s))∨(∃t∈newT a.length (a.length+b.length),p=(str (pathB t.1 t.2.1 t.2.2),str (tileH (a++b) t).flatten)):=by
 unfold appPuts at h;rcases List.mem_append.1 h with h | h
 ·left;unfold leafPuts at h;obtain ⟨j,hj,rfl⟩:=List.mem_map.1 h;have hj:=List.mem_range.1 hj;exact ⟨j,b[j],List.getElem?_eq_getElem hj,by rw[List.getD_eq_getElem?_getD,List.getElem?_eq_getElem hj];rfl⟩
 ·right;obtain ⟨t,ht,rfl⟩:=List.mem_map.1 h;obtain ⟨h1,h2⟩:=tiles_new a b hn;refine ⟨prj t,by rw[←h1];exact List.mem_map_of_mem ht,?_⟩;unfold tileT;rw[h2 t ht];rfl
theorem new_facts(hm:m≤1048576)(h:t∈newT n m):t∈allT m 3∧t∉allT n 3∧t.1≤2∧t.2.1≤65536∧t.2.2≤256:=by obtain ⟨h1,h2⟩:=List.mem_filter.1 h;obtain ⟨h3,h4,h5⟩:=allT_mem h1;have hd:=Nat.div_le_self m (2 ^ (8*t.1));exact ⟨h1,of_decide_eq_true h2,by omega,by omega,by omega⟩
theorem nm_all(o:List UInt8)(a b:List (List UInt8))(hn:a.length+b.length≤1048576):NmOk (allPuts o a b):=fun p hp=> by
 unfold allPuts at hp;rcases List.mem_append.1 hp with h | h
 ·rcases put_kinds hn h with ⟨j,s,hj,rfl⟩ | ⟨t,ht,rfl⟩
  ·have:=(List.getElem?_eq_some_iff.1 hj).1;exact leafN_ok _ (by omega)
  ·obtain ⟨_,_,h1,h2,h3⟩:=new_facts hn ht;exact pathB_ok _ _ _ h1 h2 h3
 ·rw[List.mem_singleton.1 h];exact (show 1≤(str headB).size∧(str headB).size≤256 by decide)
theorem len_all(o:List UInt8)(a b:List (List UInt8))(hn:a.length+b.length≤1048576)(hb:b≠ []):(allPuts o a b).length=putsN a.length (a.length+b.length):=by have hbl:=List.length_pos_iff.2 hb;obtain ⟨h1,_⟩:=tiles_new a b hn;have h2:=congrArg List.length h1;rw[List.length_map] at h2;unfold allPuts appPuts leafPuts putsN;rw[if_neg (by omega),List.length_append,List.length_append,List.length_map,List.length_map,List.length_range,h2,List.length_singleton];omega
theorem holds_keep(H:Holds T o a)(hn:a.length+b.length≤1048576)(ps:List (ByteArray×ByteArray))(hps:∀p∈ps,p∈appPuts a.length (edgesP a) b):Holds (putTs T ps) o a:=by
 refine ⟨?_,fun i s hi=> ?_,fun t ht=> ?_⟩
 ·rw[look_none ps T _ (fun p hp=> ?_)]
  ·exact H.ck
  ·rcases put_kinds hn (hps p hp) with ⟨j,s,_,rfl⟩ | ⟨t,_,rfl⟩
   ·exact leafN_head _
   ·exact path_head _ _ _
 ·rw[look_none ps T _ (fun p hp=> ?_)]
  ·exact H.lf i s hi
  ·have hil:=(List.getElem?_eq_some_iff.1 hi).1;rcases put_kinds hn (hps p hp) with ⟨j,s,_,rfl⟩ | ⟨t,_,rfl⟩
   ·exact fun e=> by have:=leafN_inj e;omega
   ·exact fun e=> leafN_path i _ _ _ e.symm
 ·rw[look_none ps T _ (fun p hp=> ?_)]
  ·exact H.tl t ht
  ·obtain ⟨_,_,_,h256,_⟩:=tile_facts (ls:=a) (by omega) ht;rcases put_kinds hn (hps p hp) with ⟨j,s,_,rfl⟩ | ⟨u,hu,rfl⟩
   ·exact leafN_path _ _ _ _
   ·intro e;obtain ⟨_,h2,_,_,h5⟩:=new_facts hn hu;obtain ⟨e1,e2,e3⟩:=pathB_inj h5 h256 (str_inj e);obtain ⟨u1,u2,u3⟩:=u;obtain ⟨t1,t2,t3⟩:=t;simp only at e1 e2 e3;subst e1 e2 e3;exact h2 ht
theorem holds_part(H:Holds T o a)(hn:a.length+b.length≤1048576)(j:Nat)(hj:j < (allPuts o a b).length):Holds (putTs T ((allPuts o a b).take j)) o a:=by refine holds_keep H hn _ (fun p hp=> ?_);unfold allPuts at hj hp;rw[List.length_append,List.length_singleton] at hj;rw[List.take_append_of_le_length (by omega)] at hp;exact List.mem_of_mem_take hp
theorem holds_all(H:Holds T o a)(hn:a.length+b.length≤1048576):Holds (putTs T (allPuts o a b)) o (a++b):=by
 have hab:(a++b).length=a.length+b.length:=List.length_append;unfold allPuts;rw[putTs_snoc];obtain ⟨hT1,hT2⟩:=tiles_new a b hn;refine ⟨?_,fun i s hi=> ?_,fun t ht=> ?_⟩
 ·rw[lookL_put,if_pos rfl,segH_all,hab]
 ·rw[lookL_put,if_neg (leafN_head i)];have hil:=(List.getElem?_eq_some_iff.1 hi).1;rcases Nat.lt_or_ge i a.length with h | h
  ·rw[look_none _ T _ (fun p hp=> ?_)]
   ·exact H.lf i s (by rw[List.getElem?_append_left h] at hi;exact hi)
   ·rcases put_kinds hn hp with ⟨j,s,_,rfl⟩ | ⟨t,_,rfl⟩
    ·exact fun e=> by have:=leafN_inj e;omega
    ·exact fun e=> leafN_path i _ _ _ e.symm
  ·rw[List.getElem?_append_right h] at hi;have hil2:=(List.getElem?_eq_some_iff.1 hi).1;refine look_some _ T _ _ ⟨(leafN i,str s),?_,rfl⟩ (fun p hp e=> ?_)
   ·unfold appPuts leafPuts;refine List.mem_append_left _ (List.mem_map.2 ⟨i - a.length,List.mem_range.2 hil2,?_⟩);rw[List.getD_eq_getElem?_getD,hi,show a.length+(i - a.length)=i by omega];rfl
   ·rcases put_kinds hn hp with ⟨j,s',hj,rfl⟩ | ⟨t,_,rfl⟩
    ·have:=leafN_inj e;rw[show i - a.length=j by omega,hj] at hi;cases hi
     rfl
    ·exact absurd e.symm (leafN_path i _ _ _)
 ·rw[lookL_put,if_neg (path_head _ _ _)];obtain ⟨_,_,_,h256,_⟩:=tile_facts (ls:=a++b) (by omega) ht;rw[hab] at ht;by_cases hold:t∈allT a.length 3
  ·rw[look_none _ T _ (fun p hp=> ?_)]
   ·rw[tileH_pre a b hold];exact H.tl t hold
   ·rcases put_kinds hn hp with ⟨j,s,_,rfl⟩ | ⟨u,hu,rfl⟩
    ·exact leafN_path _ _ _ _
    ·intro e;obtain ⟨_,h2,_,_,h5⟩:=new_facts hn hu;obtain ⟨e1,e2,e3⟩:=pathB_inj h5 h256 (str_inj e);obtain ⟨u1,u2,u3⟩:=u;obtain ⟨t1,t2,t3⟩:=t;simp only at e1 e2 e3;subst e1 e2 e3;exact h2 hold
  ·have hnew:t∈newT a.length (a.length+b.length):=List.mem_filter.2 ⟨ht,decide_eq_true hold⟩;rw[←hT1] at hnew;obtain ⟨u,hu,hpu⟩:=List.mem_map.1 hnew;refine look_some _ T _ _ ⟨tileT u,?_,?_⟩ (fun p hp e=> ?_)
   ·unfold appPuts;exact List.mem_append_right _ (List.mem_map_of_mem hu)
   ·rw[←hpu];rfl
   ·rcases put_kinds hn hp with ⟨j,s',hj,rfl⟩ | ⟨v,hv,rfl⟩
    ·exact absurd e (leafN_path _ _ _ _)
    ·obtain ⟨_,_,_,_,h5⟩:=new_facts hn hv;obtain ⟨e1,e2,e3⟩:=pathB_inj h5 h256 (str_inj e);obtain ⟨v1,v2,v3⟩:=v;obtain ⟨t1,t2,t3⟩:=t;simp only at e1 e2 e3;subst e1 e2 e3;rfl
theorem holds_nil(o:List UInt8)(r:HB)(hr:r=emptyH):Holds [(str headB,str (ckptB o 0 r))] o []:=by have h0:allT ([]:List (List UInt8)).length 3= []:=rfl;refine ⟨?_,fun i s hi=> absurd hi (by simp),fun t ht=> absurd (h0▸ht) (by simp)⟩;subst hr;show lookL _ _=some (str (ckptB o 0 (mthP (segH [] 0 0))));rw[segH_nil];simp[lookL]
end Go.Proofs.YtjnjpgdoncbahaaGreatDoor
