/- The store by contracts: Names. -/
import Derived.Test.YtjnjpgdoncbahaaGreatDoorStGet2
import Derived.Sort.OwnSorted
namespace Go.Proofs.YtjnjpgdoncbahaaGreatDoor
open Go.RowKit Go.Lib Go.Maps Go.Sort
set_option maxRecDepth 100000
set_option maxHeartbeats 4000000
variable {mb:Nat}{ss:List (List UInt8)}{w:World}
def namesL(L:TxtL):List (List UInt8):=(L.map fun p=> p.1.data.toList).mergeSort leB
theorem info_str:(Tryz.prog.info? 9).map (fun i=> (i.zero,i.size,i.bytes))=some (some (.string ⟨#[]⟩),1,16):=by kernel_rfl
theorem sort_any{W:World}{Bs g cap:Nat}(h:W.ownsRow Bs 9 1 (.slice (some ⟨g,0,none⟩) ss.length cap) ss.length (ss.map encStr))(hsz:ss.length < 4611686018427387904):
 Calls Tryz.prog 158 #[.slice (some ⟨g,0,none⟩) ss.length cap] W fun e w'=> e= .returned (.tuple #[])∧w'.ownsRow Bs 9 1 (.slice (some ⟨g,0,none⟩) ss.length cap) ss.length ((ss.mergeSort leB).map encStr)∧W.grownBy w' (some g):=by
 rcases h.2 with ⟨h0,_⟩ | ⟨g',cap',cur,hv,hb,hg,h1,h2,h3,h4⟩
 ·cases h0
 ·simp only[Value.slice.injEq,Option.some.injEq,Addr.mk.injEq,true_and,and_true] at hv;obtain ⟨rfl,rfl⟩:=hv;refine (Tryz.slices_Sort_string g 0 cap ss W (holds_of_block hg (by simpa using h4)) (lt_of_blk hg) hsz).mono ?_;rintro e w' ⟨rfl,n,os,rfl⟩;exact ⟨rfl,ownsRow_sorted (by simp) hb hg h1 h2 h3,grownBy_sorted _⟩
theorem perm_names{L:TxtL}{D:DataW Unit}{left:Lit→Bool}(nd:(L.map (·.1)).Nodup)(hD:∀s,Maps.has D (keyLit s)=(lookL L s).isSome)(hC:Collected D left ss)(hl:∀kl,left kl=false):ss.mergeSort leB=namesL L:=by
 refine mergeSort_of_perm ((List.perm_ext_iff_of_nodup hC.1 ?_).2 fun x=> ?_)
 ·have:(L.map fun p=> p.1.data.toList)=(L.map (·.1)).map (fun s=> s.data.toList):=by rw[List.map_map];rfl
  rw[this];exact List.pairwise_map.2 (nd.imp fun {a b} hne e=> hne (ByteArray.ext (Array.ext' e)))
 ·rw[hC.2 x,hl];have e:(Lit.string x)=keyLit ⟨x.toArray⟩:=by simp[keyLit]
  rw[e,hD,lookL_mem];simp only[and_true];constructor
  ·intro h;obtain ⟨p,hp,he⟩:=List.mem_map.1 h;exact List.mem_map.2 ⟨p,hp,by rw[he]⟩
  ·intro h;obtain ⟨p,hp,he⟩:=List.mem_map.1 h;exact List.mem_map.2 ⟨p,hp,ByteArray.ext (Array.ext' (by rw[he]))⟩
theorem row_ne_map{base:Nat}{e:TypeId}{size:Nat}{v:Value}{n:Nat}{xs:List Value}(h:w.ownsRow base e size v n xs){es:Array MapEntry}{c:Nat}(hb:w.heap[mb]? =some (.map es c)):some mb≠v.ownBlock:=by
 rcases h.2 with ⟨rfl,_⟩ | ⟨g,cap,cur,rfl,_,hg,_⟩
 ·simp[Value.ownBlock]
 ·intro e1;have:mb=g:=by simpa[Value.ownBlock] using e1
  subst this;rw[hb] at hg;cases hg
theorem names_any{b:Nat}{tv:Value}{x:StD}(H:StAt w b mb tv x)(hL:x.texts.length≤4398046511104):
 Calls Tryz.prog 60 #[.pointer (some ⟨b,0,none⟩)] w fun e w'=> ∃g cap,e= .returned (.slice (some ⟨g,0,none⟩) x.texts.length cap)∧w'.ownsRow w.heap.size 9 1 (.slice (some ⟨g,0,none⟩) x.texts.length cap) x.texts.length ((namesL x.texts).map encStr)∧Ext w w':=by
 obtain ⟨j0,hj0,hjz0,hjz1,hjz2⟩:=info_parts info_str;obtain ⟨D,ho,h1,h2,h3⟩:=H.tex.ex;have m0:w.cell? ⟨b,0,none⟩=some (.map (some mb)):=cell_of_blk H.blk 0;have HT:=ZA H.tex;have HH:=ZA H;have HO:=ZA ho;have HS1:=ZA h1;have HS2:=ZA h2;have HL:=ZA hL;have HMK:=ZA (show j0.bytes*x.texts.length≤281474976710656∧x.texts.length≤maxLen by rw[hjz2];unfold maxLen;omega);have HML:=ZA (ho.lt);clear H ho h1 h2 h3 hL;go_enter Tryz.func60,Tryz.ntmps60;go_wp2_with (first
  | (at_len;refine wpList_lenT _ rfl _ rfl mb x.texts rfl HT.o ?_)
  | (at_make;refine wpList_make_own _ rfl _ _ 34 rfl w.heap.size 9 j0 (.string ⟨#[]⟩) 1 Tryz.underlying34 hj0 hjz0 hjz1 _ _ _ x.texts.length rfl rfl rfl HMK.o.1 HMK.o.2 (Nat.le_refl _) ?_;intro w1 hrow1 hg1;have E1:Ext w w1:=(Upd.refl none' w).grown hg1 (fun k hk=> by cases hk);have m0:w1.cell? ⟨b,0,none⟩=some (.map (some mb)):=cell_of_blk (Ext.blk E1 HH.o.blk) 0)
  | (at_range;refine wpList_range_own _ rfl _ 43 rfl 9 9 str_keyed Tryz.underlying43 _ mb x.texts.length _ rfl (owns_of_blk HO.o (E1.block mb HML.o id)) ?_;intro w0 hrg0 hg0 hs0))
 go_frame;have HE1:=ZA E1;clear E1 m0;go_loopw [3] (fun v wr=> ∃(left:Lit→Bool) (cnt:Nat) (ss:List (List UInt8)),wr.ranges Tryz.prog 9 (plainElem Tryz.prog 9) mb w1.heap.size x.texts.length D left cnt∧ss.length+cnt≤x.texts.length∧
  wr.ownsRow w.heap.size 9 1 v ss.length (ss.map encStr)∧v≠ .slice none 0 0∧Collected D left ss∧Ext w wr)
  (fun _ wr=> wr.rangeLeft mb w1.heap.size)
 case atStart=>
  exact ⟨_,_,[],hrg0,by simp[HS1.o],hrow1.kept hg0 (Or.inr (by simp[Value.ownBlock])),by simp,Collected.start D,HE1.o.grown hg0 (fun k hk=> by cases hk)⟩
 case round=>
  obtain ⟨left,cnt,ss,hrg,hcs,hrow,hnn,hC,hX⟩:=hrel;have HRG:=ZA hrg;have HROW:=ZA hrow;have HC:=ZA hC;have HX:=ZA hX;have HCS:=ZA hcs;have HNN:=ZA hnn;clear hrg hcs hrow hnn hC hX;go_wp2_with (at_next;refine wpList_next_ranges _ rfl _ rfl 9 str_keyed (plainElem Tryz.prog 9) encStr Value.string (fun key kl hk=> by obtain ⟨x,hx,_⟩:=Maps.keyOf_str Tryz.underlying9 hk;exact ⟨x,hx⟩) (fun v y hv=> by obtain ⟨c,rfl,_⟩:=elS_inv hv;exact ⟨c,rfl⟩) mb w1.heap.size x.texts.length _ _ _ rfl HRG.o ?_ ?_)
  ·intro hc0 hl0;have hrow:=HROW.o;rcases hrow.2 with ⟨hnil,_⟩ | ⟨g,cap,cur,rfl,hbase,hb,q1,q2,q3,q4⟩
   ·exact absurd hnil HNN.o
   have HQ:=ZA hbase;have hlen:ss.length=x.texts.length:=by have e:=perm_names HT.o.nd HS2.o HC.o hl0;have:=congrArg List.length e;simpa[namesL] using this
   have HNM:=ZA (perm_names HT.o.nd HS2.o HC.o hl0);have CS:=sort_any hrow (by have:=HL.o;omega);rw[HNM.o,hlen] at CS;rw[hlen];clear hrow hb q1 q2 q3 q4 hbase hc0 hl0 hlen;go_wp2_with (refine CS.mono ?_;rintro e w' ⟨rfl,ho,hg⟩);go_ret;exact ⟨g,cap,rfl,ho,HX.o.grown hg (fun k hk=> by cases hk;exact .inl HQ.o)⟩
  ·intro x1 c kl yd yp w2 cnt2 hkey hlk hv hat hrg2 hlt hg2 hs2 hen;obtain ⟨x',ex,rfl,_⟩:=Maps.keyOf_str Tryz.underlying9 hkey;obtain rfl:x1=x':=encStr_inj ex;have hrow2:=HROW.o.kept hg2 (Or.inr (row_ne_iter HROW.o HRG.o).symm);have HR2:=ZA (rows_upd hrow2 ((Upd.refl none' w2).alloc (.cells #[encStr x1] 9)) (fun _ _=> id));have HRW2:=ZA hrow2;have HG2:=ZA hg2;have HRG2:=ZA hrg2;have HCN:=ZA (HC.o.step hlk hat);have HLT:=ZA hlt;have HW2:=ZA (show w.heap.size≤w2.heap.size by have:=HX.o.size;have:=hg2.size;omega);have HB3:Hid (w.heap.size≤(w2.alloc (.cells #[encStr x1] 9)).heap.size):=ZA (by have:=HW2.o;simp;omega);have HM:=ZA (show ss.length+1≤maxLen∧(ss.length+1)*16≤140737488355328 by have:=HL.o;have:=HCS.o;unfold maxLen;omega);have H1:=ZA (show∀u∈([encStr x1]:List Value),u.oneCell'=true from fun u hu=> by rw[List.mem_singleton.1 hu];rfl);clear hs2 hrow2 hg2 hrg2 hlk hat hlt hkey hv ex;go_wp2_with (at_builtin;refine wpList_app rfl _ _ 34 rfl w.heap.size 9 j0 (.string ⟨#[]⟩) 1 16 Tryz.underlying34 hj0 hjz0 hjz1 hjz2 rfl (by decide) _ _ _ rfl HR2.o ⟨w2.heap.size,0,none⟩ 1 1 [encStr x1] rfl rfl (cell_one_new _ _ _) H1.o HM.o.1 HM.o.2 HB3.o ?_;intro v' w3 hown' hg3 hbl;go_frame);have hrg3:=(HRG2.o.alloc (.cells #[encStr x1] 9)).kept hg3 (by
    obtain ⟨es,cl,hb⟩:=(HT.o.ext HX.o).blk;have hb2:w2.heap[mb]? =some (.map es cl):=(HG2.o.block mb (lt_of_blk hb) (by have:=HML.o;have:=HE1.o.size;intro e;cases e;omega)).trans hb
    exact row_ne_map HRW2.o hb2) (row_ne_iter HRW2.o HRG2.o)
   go_roundw;case rel=>
    refine ⟨_,cnt2,ss++ [x1],hrg3,by have:=HLT.o;have:=HCS.o;simp;omega,by simpa using hown',fun hv'=> ?_,HCN.o,?_⟩
    ·rw[hv'] at hown';rcases hown'.2 with ⟨_,e⟩ | ⟨_,_,_,e,_⟩
     ·omega
     ·cases e
    ·have e1:Ext w w2:=HX.o.grown HG2.o (fun k hk=> by cases hk;exact .inl HE1.o.size);exact (e1.alloc _).grown hg3 (fun k hk=> .inl (HRW2.o.lt k hk).1)
   case measure=> rw[hrg3.left_eq,HRG.o.left_eq];exact HLT.o
end Go.Proofs.YtjnjpgdoncbahaaGreatDoor
