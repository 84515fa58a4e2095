/- The statements' puts of chapter 25 by contract. PRINTED by wip/tools/gen_puts.py. -/
import Derived.Test.YtnkcfkjeeennmaaGreatDoorTileQ
import Derived.Test.YtnkcfkjeeennmaaGreatDoorTyG
import Derived.Test.YtnkcfkjeeennmaaGreatDoorNoneP
namespace Go.Proofs.YtnkcfkjeeennmaaGreatDoor
open Go.RowKit Go.Lib Go.Sort
set_option maxRecDepth 20000
set_option maxHeartbeats 32000000
variable {n:Nat}{t:Nat×Nat×Nat}
def newT(n m:Nat):List (Nat×Nat×Nat):=(allT m 3).filter (fun t=> decide (t∉allT n 3))
def putsN(n m:Nat):Nat:=if n=m then 0 else m - n+1+(newT n m).length
theorem allT_ok(hn:n≤1048576)(h:t∈allT n 3):TlOk t:=by obtain ⟨h1,h2,h3⟩:=allT_mem h;have hd:=Nat.div_le_self n (2 ^ (8*t.1));exact ⟨by omega,by omega,by omega⟩
theorem newT_take{m i:Nat}(h:(allT m 3)[i]? =some t):((allT m 3).take (i+1)).filter (fun t=> decide (t∉allT n 3))=((allT m 3).take i).filter (fun t=> decide (t∉allT n 3))++(if t∈allT n 3 then [] else [t]):=by rw[List.take_add_one,h,List.filter_append];congr 1;by_cases hm:t∈allT n 3 <;> simp[hm]
theorem mem_take{l:List (Nat×Nat×Nat)}{k:Nat}{s:Nat×Nat×Nat}(h:l[k]? =some s):decide (t∈l.take (k+1))=(decide (t∈l.take k) || decide (s=t)):=by
 rw[List.take_add_one,h];by_cases h1:t∈l.take k
 ·simp[h1]
 ·by_cases h2:s=t
  ·simp[h2]
  ·have h3:¬t=s:=fun e=> h2 e.symm;simp[h1,h2,h3]
theorem puts_any25(w:World)(n m:Nat)(hnm:n≤m)(hm:m≤1048576):
 Calls Tryz.prog 28 #[.int .i64 n,.int .i64 m] w fun e w'=> e= .returned (.int .i64 (putsN n m))∧Ext w w':=by
 have HNM:=ZA (And.intro hnm hm);have CA:=tall_any w n (by omega);have hnw:IntKind.u64.wrap (n:Int)=n:=by rw[IntKind.wrap_u64];omega
 have hmw:IntKind.u64.wrap (m:Int)=m:=by rw[IntKind.wrap_u64];omega
 by_cases heq:n=m
 ·have HP:Hid (putsN n m=0):=ZA (by unfold putsN;rw[if_pos heq]);subst heq;clear hnm hm CA;go_enter Tryz.func28,Tryz.ntmps28;go_wp2_with fail;go_ret;exact ⟨by rw[HP.o];rfl,Upd.refl _ _⟩
 ·have HP:Hid (putsN n m=m - n+1+(newT n m).length):=ZA (by unfold putsN;rw[if_neg heq]);have hne:((n:Int)==m)=false:=by simp;omega
  clear heq;go_enter Tryz.func28,Tryz.ntmps28;go_wp2_with fail;refine CA.mono ?_;rintro e w1 ⟨va,rfl,howna,hx⟩;obtain ⟨aA,ac,rfl⟩:=own_sl howna;have CB:=tall_any w1 m HNM.o.2;have HOA:=ZA howna;have HX1:=ZA hx;have HLA:=ZA (allT_le (n:=n) (by omega) 3);have HLB:=ZA (allT_le (n:=m) hm 3);obtain ⟨la,hla⟩:∃la,la=(allT n 3).length:=⟨_,rfl⟩;have HA:=ZA hla;rw[←hla] at HOA⊢;clear CA howna hx hla;go_wp2_with fail;refine CB.mono ?_;rintro e w2 ⟨vb,rfl,hownb,hx⟩;obtain ⟨bA,bc,rfl⟩:=own_sl hownb;have HOA2:=ZA (ownsRow_upd HOA.o hx (fun _ _=> id));have HOB:=ZA hownb;have HX2:=ZA (HX1.o.trans hx);obtain ⟨lb,hlb⟩:∃lb,lb=(allT m 3).length:=⟨_,rfl⟩;have HB:=ZA hlb;rw[←hlb] at HOB⊢;have hsub:IntKind.i64.wrap ((m:Int) - n)=((m - n:Nat):Int):=(IntWalk.i64_in _ (by omega)).trans (by omega);obtain ⟨D,hD⟩:∃D,D=m - n:=⟨_,rfl⟩;rw[←hD] at hsub;have hDb:D≤1048576:=by omega
  have HDD:=ZA (And.intro hD hDb);have hadd:IntKind.i64.wrap ((D:Int)+1)=((D+1:Nat):Int):=(IntWalk.i64_in _ (by omega)).trans (by omega);clear CB hownb hx hlb hD;go_wp2_with fail;go_loopw [9,10,11,12] (fun nv iv _ _ wr=> ∃(i q:Nat),i≤lb∧iv= .int .i64 i∧nv= .int .i64 q∧q=D+1+(((allT m 3).take i).filter (fun t=> decide (t∉allT n 3))).length∧q≤D+1+i∧Ext w2 wr) (fun _ iv _ _ _=> lb - (RowKit.intOf iv).toNat);case atStart=> exact ⟨0,D+1,Nat.zero_le _,rfl,by first | rfl | (simp <;> omega),by simp,by omega,Upd.refl _ _⟩
  case round=>
   obtain ⟨i,q,hi,rfl,rfl,hq,hqi,hxr⟩:=hrel;have HXR:=ZA hxr;have HQ:=ZA (And.intro hq hqi);clear hxr hq;by_cases hlt:i < lb
   ·have hlti:(i:Int) < lb:=by omega
    have hlb4:lb≤12288:=by have:=HLB.o;have:=HB.o;omega
    obtain ⟨t,ht⟩:∃t,(allT m 3)[i]? =some t:=⟨_,List.getElem?_eq_getElem (by rw[←HB.o];exact hlt)⟩;have HTT:=ZA ht;have HTOK:=ZA (allT_ok hm (List.mem_of_getElem? ht));obtain ⟨bg,rfl⟩:∃bg,bA=some ⟨bg,0,none⟩:=by
     rcases own_form HOB.o with ⟨_,h0⟩ | ⟨g,c,h9,_⟩
     ·omega
     ·simp only[Value.slice.injEq,true_and] at h9;exact ⟨g,h9.1⟩
    have HBC:Hid (∀c u,(tlC t)[c]? =some u→w2.cell? ⟨bg,0+i*3+c,none⟩=some u):=ZA (fun c u hu=> by have h9:=HOB.o.cells (g:=bg) rfl (i*3+c) u (tilesCs_get HTT.o c u hu);rw[Addr.add_lit,Nat.zero_add] at h9;rw[Nat.zero_add];exact h9)
    have HNT:=ZA (newT_take (n:=n) ht);have HLT:=ZA (And.intro hlt hlb4);have hwi:IntKind.i64.wrap ((i:Int)+1)=((i+1:Nat):Int):=(IntWalk.i64_in _ (by omega)).trans (by omega);have hwq:IntKind.i64.wrap ((q:Int)+1)=((q+1:Nat):Int):=(IntWalk.i64_in _ (by omega)).trans (by omega);clear ht hlt hi hqi;generalize wr=V at*;go_wp2_with fail;go_loopw [11,12] (fun ov kv wr=> ∃k:Nat,k≤la∧kv= .int .i64 k∧ov= .bool (decide (t∈(allT n 3).take k))∧Ext w2 wr) (fun _ kv _=> la - (RowKit.intOf kv).toNat);case atStart=> exact ⟨0,Nat.zero_le _,rfl,by simp,HXR.o⟩
    case round=>
     obtain ⟨k,hk,rfl,rfl,hxr⟩:=hrel;have HXK:=ZA hxr;clear hxr;by_cases hltk:k < la
     ·have hltki:(k:Int) < la:=by omega
      obtain ⟨s,hs⟩:∃s,(allT n 3)[k]? =some s:=⟨_,List.getElem?_eq_getElem (by rw[←HA.o];exact hltk)⟩;have HSS:=ZA hs;have HSOK:=ZA (allT_ok (by omega) (List.mem_of_getElem? hs));obtain ⟨ag,rfl⟩:∃ag,aA=some ⟨ag,0,none⟩:=by
       rcases own_form HOA2.o with ⟨_,h0⟩ | ⟨g,c,h9,_⟩
       ·omega
       ·simp only[Value.slice.injEq,true_and] at h9;exact ⟨g,h9.1⟩
      have HAC:Hid (∀c u,(tlC s)[c]? =some u→w2.cell? ⟨ag,0+k*3+c,none⟩=some u):=ZA (fun c u hu=> by have h9:=HOA2.o.cells (g:=ag) rfl (k*3+c) u (tilesCs_get HSS.o c u hu);rw[Addr.add_lit,Nat.zero_add] at h9;rw[Nat.zero_add];exact h9)
      have HMT:=ZA (mem_take (t:=t) hs);have HLK:=ZA hltk;have hkb:k < 1048576:=by have:=HLA.o;have:=HA.o;omega
      have hwk:IntKind.i64.wrap ((k:Int)+1)=((k+1:Nat):Int):=(IntWalk.i64_in _ (by omega)).trans (by omega);have hiL:i < lb:=HLT.o.1;have HIL:=ZA hiL;have HTLS:Hid ((Tryz.prog.info? 115).map (·.size)=some (tlC s).length∧(Tryz.prog.info? 115).map (·.size)=some (tlC t).length):=ZA ⟨tl_size,tl_size⟩;clear hs hltk hk hiL;generalize wr=U at*;cases hold:decide (t∈(allT n 3).take k) with
      | true=>
       rw[hold] at HMT;clear hold;go_upto_region 15 with fail;refine region_gen 12 [] (fun _ w'=> Ext U w') (fun _=> Ext) [.inl (.bool true),.inl (.bool true),.inl undef,.inl undef,.inl undef,.inl undef,.inl undef,.inl undef,.inl undef,.inl undef,.inl undef,.inl (.bool true)] (by kernel_rfl) (fun _ _=> Upd.refl _ _) trivial (by kernel_rfl) (by kernel_rfl) (by rfl) (by rfl) (by rfl) (by rfl) ((Upd.refl none' U).drew) ?_ ?_;rotate_left
       ·intro v' w' hJ hv;have hs0:=slot_val3 (hv 0 _ 50 rfl rfl) rfl;have hs1:=slot_val3 (hv 1 _ 51 rfl rfl) rfl;have hs2:=slot_val3 (hv 2 _ 52 rfl rfl) rfl;have hs3:=slot_val3 (hv 3 _ 53 rfl rfl) rfl;have hs4:=slot_val3 (hv 4 _ 54 rfl rfl) rfl;have hs5:=slot_val3 (hv 5 _ 55 rfl rfl) rfl;have hs6:=slot_val3 (hv 6 _ 56 rfl rfl) rfl;have hs7:=slot_val3 (hv 7 _ 57 rfl rfl) rfl;have hs8:=slot_val3 (hv 8 _ 58 rfl rfl) rfl;have hs9:=slot_val3 (hv 9 _ 59 rfl rfl) rfl;have hs10:=slot_val3 (hv 10 _ 60 rfl rfl) rfl;have hs11:=slot_val3 (hv 11 _ 61 rfl rfl) rfl;refine gn_norm (by simp only[List.take,putAll];rewrite[hs0,hs1,hs2,hs3,hs4,hs5,hs6,hs7,hs8,hs9,hs10,hs11];go_simp;all_goals exact rfl) ?_;clear hv hs0 hs1 hs2 hs3 hs4 hs5 hs6 hs7 hs8 hs9 hs10 hs11;refine any1 12 (by kernel_rfl) ?_;refine op_asg rfl (by rfl) rfl (.bool true) rfl ?_;refine gn_norm (by go_simp;all_goals exact rfl) ?_;refine wpAny_done (by kernel_rfl) ?_ _;have HXJ:=ZA (HXK.o.trans (show Ext U w' from hJ));clear hJ;go_wp2_with fail;have hlk:=HLK.o;go_roundw;case rel=> exact ⟨k+1,by omega,by first | rfl | (simp <;> omega),by rw[HMT.o];rfl,HXJ.o⟩
        case measure=> simp[RowKit.intOf] <;> omega
       refine ⟨g_move (fun _ _=> Upd.refl _ _) rfl (gd_none3 rfl) rfl rfl (kn_old3 11 rfl rfl),?_⟩;refine ⟨g_move (fun _ _=> Upd.refl _ _) rfl (gd_none3 rfl) rfl rfl (kn_new3 0 rfl rfl rfl rfl),?_⟩;refine ⟨g_skip 1 rfl rfl rfl rfl rfl rfl rfl rfl,?_⟩;refine ⟨g_skip 1 rfl rfl rfl rfl rfl rfl rfl rfl,?_⟩;refine ⟨g_skip 1 rfl rfl rfl rfl rfl rfl rfl rfl,?_⟩;refine ⟨g_skip 1 rfl rfl rfl rfl rfl rfl rfl rfl,?_⟩;refine ⟨g_skip 1 rfl rfl rfl rfl rfl rfl rfl rfl,?_⟩;refine ⟨g_skip 1 rfl rfl rfl rfl rfl rfl rfl rfl,?_⟩;refine ⟨g_skip 1 rfl rfl rfl rfl rfl rfl rfl rfl,?_⟩;refine ⟨g_skip 1 rfl rfl rfl rfl rfl rfl rfl rfl,?_⟩;refine ⟨g_skip 1 rfl rfl rfl rfl rfl rfl rfl rfl,?_⟩;refine ⟨g_bin (x:=(.tmp 51)) (y:=(.const (.bool true))) (fun _ _=> Upd.refl _ _) rfl (gd_none3 rfl) rfl (kn_new3 1 rfl rfl rfl rfl) kn_const3 (fun ev w h1 h2=> by simp[execOp,h1,h2,asBool]),?_⟩;exact trivial
      | false=>
       rw[hold] at HMT;clear hold;go_upto_region 15 with fail;refine region_gen 12 [] (fun _ w'=> Ext U w') (fun _=> Ext) [.inl (.bool false),.inl (.bool false),.inl (.slice (some ⟨ag,0,none⟩) la ac),.inl (.int .i64 k),.inl (.pointer (some ⟨ag,0+k*3,none⟩)),.inl (.agg (tlC s).toArray),.inl (.slice (some ⟨bg,0,none⟩) lb bc),.inl (.int .i64 i),.inl (.pointer (some ⟨bg,0+i*3,none⟩)),.inl (.agg (tlC t).toArray),.inl (.bool (decide (s=t))),.inl (.bool (decide (s=t)))] (by kernel_rfl) (fun _ _=> Upd.refl _ _) trivial (by kernel_rfl) (by kernel_rfl) (by rfl) (by rfl) (by rfl) (by rfl) ((Upd.refl none' U).drew) ?_ ?_;rotate_left
       ·intro v' w' hJ hv;have hs0:=slot_val3 (hv 0 _ 50 rfl rfl) rfl;have hs1:=slot_val3 (hv 1 _ 51 rfl rfl) rfl;have hs2:=slot_val3 (hv 2 _ 52 rfl rfl) rfl;have hs3:=slot_val3 (hv 3 _ 53 rfl rfl) rfl;have hs4:=slot_val3 (hv 4 _ 54 rfl rfl) rfl;have hs5:=slot_val3 (hv 5 _ 55 rfl rfl) rfl;have hs6:=slot_val3 (hv 6 _ 56 rfl rfl) rfl;have hs7:=slot_val3 (hv 7 _ 57 rfl rfl) rfl;have hs8:=slot_val3 (hv 8 _ 58 rfl rfl) rfl;have hs9:=slot_val3 (hv 9 _ 59 rfl rfl) rfl;have hs10:=slot_val3 (hv 10 _ 60 rfl rfl) rfl;have hs11:=slot_val3 (hv 11 _ 61 rfl rfl) rfl;refine gn_norm (by simp only[List.take,putAll];rewrite[hs0,hs1,hs2,hs3,hs4,hs5,hs6,hs7,hs8,hs9,hs10,hs11];go_simp;all_goals exact rfl) ?_;clear hv hs0 hs1 hs2 hs3 hs4 hs5 hs6 hs7 hs8 hs9 hs10 hs11;refine any1 12 (by kernel_rfl) ?_;refine op_asg rfl (by rfl) rfl (.bool (decide (s=t))) rfl ?_;refine gn_norm (by go_simp;all_goals exact rfl) ?_;refine wpAny_done (by kernel_rfl) ?_ _;have HXJ:=ZA (HXK.o.trans (show Ext U w' from hJ));clear hJ;go_wp2_with fail;have hlk:=HLK.o;go_roundw;case rel=> exact ⟨k+1,by omega,by first | rfl | (simp <;> omega),by rw[HMT.o];rfl,HXJ.o⟩
        case measure=> simp[RowKit.intOf] <;> omega
       refine ⟨g_move (fun _ _=> Upd.refl _ _) rfl (gd_none3 rfl) rfl rfl (kn_old3 11 rfl rfl),?_⟩;refine ⟨g_move (fun _ _=> Upd.refl _ _) rfl (gd_none3 rfl) rfl rfl (kn_new3 0 rfl rfl rfl rfl),?_⟩;refine ⟨g_move (fun _ _=> Upd.refl _ _) rfl (gd_some3 1 rfl rfl rfl rfl rfl) rfl rfl (kn_old3 5 rfl rfl),?_⟩;refine ⟨g_move (fun _ _=> Upd.refl _ _) rfl (gd_some3 1 rfl rfl rfl rfl rfl) rfl rfl (kn_old3 12 rfl rfl),?_⟩;refine ⟨g_index ag 0 la ac k 3 _ (fun _ _=> Upd.refl _ _) rfl (gd_some3 1 rfl rfl rfl rfl rfl) rfl rfl (kn_new3 2 rfl rfl rfl rfl) (kn_new3 3 rfl rfl rfl rfl) HLK.o Tryz.underlying152 (by rfl),?_⟩;refine ⟨g_loadAgg 115 ag (0+k*3) _ (fun _ _=> Upd.refl _ _) rfl (gd_some3 1 rfl rfl rfl rfl rfl) rfl rfl (kn_new3 4 rfl rfl rfl rfl) Tryz.underlying115 rfl HTLS.o.1 (fun p w7 _ _ hj c u hu=> Ext.cellv (HXK.o.trans hj) (HAC.o c u hu)),?_⟩;refine ⟨g_move (fun _ _=> Upd.refl _ _) rfl (gd_some3 1 rfl rfl rfl rfl rfl) rfl rfl (kn_old3 7 rfl rfl),?_⟩;refine ⟨g_move (fun _ _=> Upd.refl _ _) rfl (gd_some3 1 rfl rfl rfl rfl rfl) rfl rfl (kn_old3 10 rfl rfl),?_⟩;refine ⟨g_index bg 0 lb bc i 3 _ (fun _ _=> Upd.refl _ _) rfl (gd_some3 1 rfl rfl rfl rfl rfl) rfl rfl (kn_new3 6 rfl rfl rfl rfl) (kn_new3 7 rfl rfl rfl rfl) HIL.o Tryz.underlying152 (by rfl),?_⟩;refine ⟨g_loadAgg 115 bg (0+i*3) _ (fun _ _=> Upd.refl _ _) rfl (gd_some3 1 rfl rfl rfl rfl rfl) rfl rfl (kn_new3 8 rfl rfl rfl rfl) Tryz.underlying115 rfl HTLS.o.2 (fun p w7 _ _ hj c u hu=> Ext.cellv (HXK.o.trans hj) (HBC.o c u hu)),?_⟩;refine ⟨g_read (fun _ _=> Upd.refl _ _) rfl (gd_some3 1 rfl rfl rfl rfl rfl) rfl (fun p a w7 _ _ _ hH hN=> run_eqlT w7 rfl s t ((kn_new3 5 rfl rfl rfl rfl) a w7 hH hN) ((kn_new3 9 rfl rfl rfl rfl) a w7 hH hN) HSOK.o HTOK.o),?_⟩;refine ⟨g_bin (x:=(.tmp 51)) (y:=(.tmp 60)) (fun _ _=> Upd.refl _ _) rfl (gd_none3 rfl) rfl (kn_new3 1 rfl rfl rfl rfl) (kn_new3 10 rfl rfl rfl rfl) (fun ev w h1 h2=> by simp[execOp,h1,h2,asBool]),?_⟩;exact trivial
     ·have hltki:¬(k:Int) < la:=by omega
      have HALL:Hid ((allT n 3).take k=allT n 3):=ZA (by
       have:k=(allT n 3).length:=by have:=HA.o;omega
       rw[this,List.take_length])
      rw[HALL.o];clear hk hltk;cases hold:decide (t∈allT n 3) with
      | true=>
       have HMM:=ZA (of_decide_eq_true hold);clear hold;go_wp2_with fail;have h1:=HLT.o;have h2:=HQ.o;go_roundw;case rel=> exact ⟨i+1,q,by omega,by first | rfl | (simp <;> omega),rfl,by rw[HNT.o,if_pos HMM.o,List.append_nil];exact h2.1,by omega,HXK.o⟩
       case measure=> simp[RowKit.intOf] <;> omega
      | false=>
       have HMM:=ZA (of_decide_eq_false hold);clear hold;go_wp2_with fail;have h1:=HLT.o;have h2:=HQ.o;go_roundw;case rel=> exact ⟨i+1,q+1,by omega,by first | rfl | (simp <;> omega),by first | rfl | (simp <;> omega),by rw[HNT.o,if_neg HMM.o,List.length_append,h2.1];rfl,by omega,HXK.o⟩
       case measure=> simp[RowKit.intOf] <;> omega
   ·have hlti:¬(i:Int) < lb:=by omega
    have HFIN:Hid (q=putsN n m):=ZA (by
     have h1:=HQ.o.1;have hib:i=(allT m 3).length:=by have:=HB.o;omega
     rw[hib,List.take_length] at h1;rw[HP.o,h1,←HDD.o.1];rfl)
    clear hi hlt hqi;go_wp2_with fail;go_ret;rw[←HFIN.o];exact ⟨rfl,HX2.o.trans HXR.o⟩
end Go.Proofs.YtnkcfkjeeennmaaGreatDoor
