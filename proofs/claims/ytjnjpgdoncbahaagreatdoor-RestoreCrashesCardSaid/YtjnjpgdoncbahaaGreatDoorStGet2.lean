/- The store by contracts: Get. -/
import Derived.Test.YtjnjpgdoncbahaaGreatDoorStore
namespace Go.Proofs.YtjnjpgdoncbahaaGreatDoor
open Go.RowKit Go.Lib Go.Sort
set_option maxRecDepth 8000
set_option maxHeartbeats 8000000
variable {b:Nat}
def StD.get(x:StD)(s:ByteArray):StD×ByteArray×EV:=
 match x.refuse s with
 | some e=> (x,⟨#[]⟩,some e)
 | none=>
  if ((x.nr:Int)+1)∈x.rs then ({x with nr:=x.nr+1},⟨#[]⟩,some (7,none))
  else ({x with nr:=x.nr+1},(lookL x.texts s).getD ⟨#[]⟩,if (lookL x.texts s).isSome then none else some (6,none))
def GetPost(se:Nat→Addr)(b mb:Nat)(tv:Value)(w:World)(r:StD×ByteArray×EV)(e:Ending)(w':World):Prop:=
 e= .returned (.tuple #[.string r.2.1,evS se r.2.2])∧StAt w' b mb tv r.1∧Upd (one b) w w'
section
variable (w:World) {ops:Array Oper} {rest:List Oper} {o:Oper} {a:Act} {Q:Exit→Act→World→Prop}
theorem wpList_lookSome(hg:o.guard=none)(m x:Operand)(hop:o.op=Op.lookup 43 m x true)(mb:Nat)(L:TxtL)(hm:a.eval m= .map (some mb))(H:MapAt w mb L)(s t:ByteArray)(hl:lookL L s=some t)(hs:s.size≤maxLen)(hx:a.eval x= .string s)
 (hK:wpList Tryz.prog ops Q rest (a.put o.dst (.tuple #[.string t,.bool true])) w):wpList Tryz.prog ops Q (o::rest) a w:=
 wpList_lookT w hg m x hop mb L hm H s hs hx (by rw[hl];exact hK)
theorem wpList_lookNone(hg:o.guard=none)(m x:Operand)(hop:o.op=Op.lookup 43 m x true)(mb:Nat)(L:TxtL)(hm:a.eval m= .map (some mb))(H:MapAt w mb L)(s:ByteArray)(hl:lookL L s=none)(hs:s.size≤maxLen)(hx:a.eval x= .string s)
 (hK:wpList Tryz.prog ops Q rest (a.put o.dst (.tuple #[.string ⟨#[]⟩,.bool false])) w):wpList Tryz.prog ops Q (o::rest) a w:=
 wpList_lookT w hg m x hop mb L hm H s hs hx (by rw[hl];exact hK)
end
theorem ext_grow(W:World)(q:Nat)(os:Array Obj):Ext W (grow (W.drewN q) os):=
 ⟨rfl,rfl,rfl,by show W.heap.size≤((W.drewN q).heap++os).size;rw[Array.size_append];exact Nat.le_add_right _ _,fun i hi _=> by show ((W.drewN q).heap++os)[i]? =W.heap[i]?;rw[Array.getElem?_append_left (by show i < W.heap.size;omega)];rfl⟩
theorem search_any{W:World}{n0 n1 cap:Nat}{ta:Option Addr}{r:Int}(zs:List Int)(hl:W.cell? ⟨n1,0,none⟩=some (.slice ta zs.length cap))(hs:W.cell? ⟨n0,0,none⟩=some (.pointer (some ⟨b,0,none⟩)))(hr:W.cell? ⟨b,3,none⟩=some (.int .i64 r))
 (hrd:RdsAt W ta zs) (hm:mayR zs=true) (hz:zs.length < 4611686018427387904):
 Calls Tryz.prog 139 #[.int .i64 zs.length,.func (.func 140) #[] #[.pointer (some ⟨n1,0,none⟩),.pointer (some ⟨n0,0,none⟩)]] W fun e w'=> e= .returned (.int .i64 (placeOfRead zs r:Nat))∧Ext W w':=by
 have lt:=fun {a:Addr} {v:Value} (h:W.cell? a=some v)=> World.block_lt_of_cell? W a h;refine (Tryz.sort_Search 140 #[.pointer (some ⟨n1,0,none⟩),.pointer (some ⟨n0,0,none⟩)] zs.length (fun i=> decide (r≤zs.getD i 0)) W enters_get1 hz (fun m os i hi=> ?_) (place_mono hm r)).mono ?_
 ·obtain ⟨g,off,rfl,hc⟩:=cell_int_at hrd i hi;have C:=get1_any (W:=grow (W.drewN m) os) (cell_grown (lt hl) hl m os) (cell_grown (lt hs) hs m os) (cell_grown (lt hr) hr m os) (cell_grown (lt hc) hc m os) hi;refine C.mono ?_;rintro e w' ⟨rfl,q,rfl⟩;exact ⟨by rw[getD_at hi],q,#[],(grow_empty _).symm⟩
 ·rintro e w' ⟨rfl,q,os,rfl⟩;exact ⟨rfl,ext_grow W q os⟩
theorem get_any{B mb:Nat}{se:Nat→Addr}{tv:Value}{x:StD}{w:World}(G:Genv B se w)(H:StAt w b mb tv x)(hB:B≤b)(s:ByteArray)(hs:s.size≤maxLen)(hn:x.nr < 4611686018427387904)(hL:x.rs.length < 4611686018427387904):
 Calls Tryz.prog 38 #[.pointer (some ⟨b,0,none⟩),.string s] w (GetPost se b mb tv w (x.get s)):=by
 have X:=(Upd.refl none' w).alloc (.cells #[.pointer (some ⟨b,0,none⟩)] 22);have hx:=blk_alloc w (.cells #[.pointer (some ⟨b,0,none⟩)] 22);have H0:=H.ext X;have C:=refused_any (G.ext X) H0 s;have HX:=ZA X;have HBX:=ZA hx;have HH:=ZA H0;have HG:=ZA G;have HS:=ZA hs;have HL:=ZA hL;have HGB:=ZA hB;have HLB:=ZA (lt_of_blk H.blk);have p0:=cell_of_blk hx 0;simp only[List.getElem?_toArray,List.getElem?_cons_zero] at p0;cases hr:x.refuse s with
 | some e=>
  obtain ⟨k,p⟩:=e;obtain ⟨h1,h2,rfl⟩:=refuse_some x s _ hr;have HP:=ZA (show x.get s=(x,⟨#[]⟩,some (k,none)) by unfold StD.get;rw[hr]);rw[hr] at C;simp only[evS] at C;clear H G H0 hr hs hL hB h1 h2 X hx;go_enter Tryz.func38,Tryz.ntmps38;go_wp2_with fail;refine C.mono ?_;rintro e w2 ⟨rfl,rfl⟩;go_wp2_with fail;go_ret2;rw[HP.o];exact ⟨rfl,HH.o,Upd.ext HX.o _⟩
 | none=>
  rw[hr] at C;simp only[evS] at C;have m1:=cell_of_blk H0.blk 1;have m3:=cell_of_blk H0.blk 3;have f3:=free_of_blk H0.blk 3;simp only[stRow,List.getElem?_toArray,List.getElem?_cons_zero,List.getElem?_cons_succ] at m1 m3;have hw:IntKind.i64.wrap ((x.nr:Int)+1)=(x.nr:Int)+1:=IntWalk.i64_in _ (by omega);have HRF:=ZA hr;obtain ⟨ta,cap,rfl,hrd⟩:=rds_of_row H0.row;have HRD:=ZA hrd;clear H G H0 hr hs hL hB X hx hrd;go_enter Tryz.func38,Tryz.ntmps38;go_wp2_with fail;refine C.mono ?_;rintro e w2 ⟨rfl,rfl⟩;have hb1:=blk_set HH.o.blk 3 (.int .i64 ((x.nr:Int)+1));have U1:=(Upd.refl (one b) (w.alloc (.cells #[.pointer (some ⟨b,0,none⟩)] 22))).setCell (p:=⟨b,3,none⟩) (.inr rfl) (.int .i64 ((x.nr:Int)+1));have H1:StAt ((w.alloc (.cells #[.pointer (some ⟨b,0,none⟩)] 22)).setCell ⟨b,3,none⟩ (.int .i64 ((x.nr:Int)+1))) b mb (.slice ta x.rs.length cap) {x with nr:=x.nr+1}:=
   ⟨hb1,HH.o.tex.upd U1 (fun e=> HH.o.ne (show mb=b from e).symm),rows_upd HH.o.row U1 (fun g hg e=> HH.o.tvb (by rw[hg];exact congrArg some (show g=b from e))),HH.o.rise⟩
  have X2:=(Upd.refl none' ((w.alloc (.cells #[.pointer (some ⟨b,0,none⟩)] 22)).setCell ⟨b,3,none⟩ (.int .i64 ((x.nr:Int)+1)))).alloc (.cells #[.slice ta x.rs.length cap] 27);have hn1:=blk_alloc ((w.alloc (.cells #[.pointer (some ⟨b,0,none⟩)] 22)).setCell ⟨b,3,none⟩ (.int .i64 ((x.nr:Int)+1))) (.cells #[.slice ta x.rs.length cap] 27);rw[show ((w.alloc (.cells #[.pointer (some ⟨b,0,none⟩)] 22)).setCell ⟨b,3,none⟩ (.int .i64 ((x.nr:Int)+1))).heap.size=w.heap.size+1 by simp] at hn1;have hn0:=Ext.blk X2 (U1.blk HBX.o (fun e=> by have:=HLB.o;have:w.heap.size=b:=e;omega));have H2:=H1.ext X2;have U2:Upd (one b) w _:=(((HX.o.mono (fun _ _ h=> h.elim)).trans U1).thenExt X2);have l1:World.cell? _ ⟨w.heap.size+1,0,none⟩=some (.slice ta x.rs.length cap):=cell_of_blk hn1 0;have l0:World.cell? _ ⟨w.heap.size,0,none⟩=some (.pointer (some ⟨b,0,none⟩)):=cell_of_blk hn0 0;have l3:World.cell? _ ⟨b,3,none⟩=some (.int .i64 ((x.nr:Int)+1)):=cell_of_blk H2.blk 3;obtain ⟨ta2,cap2,e2,hrd2⟩:=rds_of_row H2.row;simp only[Value.slice.injEq,true_and] at e2;obtain ⟨rfl,rfl⟩:=e2;have CS:=search_any (r:=(x.nr:Int)+1) x.rs l1 l0 l3 hrd2 H2.rise HL.o;have HH2:=ZA H2;have HU2:=ZA U2;have HN1:=ZA hn1;have HN0:=ZA hn0;have HR2:=ZA hrd2;have HPS:=ZA (place_spec H2.rise ((x.nr:Int)+1));clear hb1 U1 H1 X2 hn1 hn0 H2 U2 hrd2 l0 l1 l3 C;go_wp2_with fail;generalize hW:(((w.alloc (.cells #[.pointer (some ⟨b,0,none⟩)] 22)).setCell ⟨b,3,none⟩ (.int .i64 ((x.nr:Int)+1))).alloc (.cells #[.slice ta x.rs.length cap] 27))=W at*;refine CS.mono ?_;rintro e w3 ⟨rfl,u⟩;have hn1:=Ext.blk u HN1.o;have hn0:=Ext.blk u HN0.o;have H3:=HH2.o.ext u;have l1:w3.cell? ⟨w.heap.size+1,0,none⟩=some (.slice ta x.rs.length cap):=cell_of_blk hn1 0;have l0:w3.cell? ⟨w.heap.size,0,none⟩=some (.pointer (some ⟨b,0,none⟩)):=cell_of_blk hn0 0;have l3:w3.cell? ⟨b,3,none⟩=some (.int .i64 ((x.nr:Int)+1)):=cell_of_blk H3.blk 3;have c0:w3.cell? ⟨b,0,none⟩=some (.map (some mb)):=cell_of_blk H3.blk 0;have HU3:=ZA (HU2.o.thenExt u);have HR3:=ZA (HR2.o.ext u);have HH3:=ZA H3;have G3:=HG.o.below ((HU2.o.thenExt u).below (Nat.le_trans HGB.o (Nat.le_of_lt HLB.o)) (fun k e=> (show k=b from e)▸HGB.o));have g7:w3.cell? ⟨5,0,none⟩=some (sv se 7):=G3.cell 7 (by omega) (by omega);have g6:w3.cell? ⟨6,0,none⟩=some (sv se 6):=G3.cell 6 (by omega) (by omega);clear u hn1 hn0 H3 G3 CS;generalize hpl:placeOfRead x.rs ((x.nr:Int)+1)=pl at*;obtain ⟨hpz,hiff⟩:=HPS.o;clear hpl;by_cases hmem:((x.nr:Int)+1)∈x.rs
  ·obtain ⟨h1,h2⟩:=hiff.2 hmem;obtain ⟨g,off,rfl,hc⟩:=cell_int_at HR3.o pl h1;rw[←getD_at h1,h2] at hc;have hpi:(pl:Int) < x.rs.length:=by omega
   have HP:=ZA (show x.get s=({x with nr:=x.nr+1},⟨#[]⟩,some (7,none)) by unfold StD.get;rw[HRF.o];simp only;rw[if_pos hmem]);clear hiff hmem h2 hpz;go_wp2_with fail;go_quiet (fail);go_wp2_with fail;go_quiet (fail);go_wp2_with fail;go_ret2;rw[HP.o];exact ⟨rfl,HH3.o.ext (((Upd.refl none' w3).drewN _).drewN _),(HU3.o.drewN _).drewN _⟩
  ·have HP:=ZA (show x.get s=({x with nr:=x.nr+1},(lookL x.texts s).getD ⟨#[]⟩,if (lookL x.texts s).isSome then none else some (6,none)) by unfold StD.get;rw[HRF.o];simp only;rw[if_neg hmem]);have HM3:=ZA (fun k=> HH3.o.tex.ext ((Upd.refl none' w3).drewN k));by_cases hlt:pl < x.rs.length
   ·obtain ⟨g,off,rfl,hc⟩:=cell_int_at HR3.o pl hlt;have hne:¬x.rs[pl]=(x.nr:Int)+1:=fun e=> hmem (hiff.1 ⟨hlt,by rw[getD_at hlt];exact e⟩);have hnb:(x.rs[pl]==(x.nr:Int)+1)=false:=by simpa using hne
    have hpi:(pl:Int) < x.rs.length:=by omega
    generalize x.rs[pl]=y at*;clear hiff hmem hpz;cases hlk:lookL x.texts s with
    | some t=>
     have HP2:=ZA (show x.get s=({x with nr:=x.nr+1},t,none) by rw[HP.o,hlk];rfl);have HLK:=ZA hlk;clear hlk;go_wp2_with fail;go_quiet (fail);go_wp2_with (at_lookup;refine wpList_lookSome _ rfl _ _ rfl mb x.texts rfl (HM3.o _) s t HLK.o HS.o rfl ?_);go_ret2;rw[HP2.o];exact ⟨rfl,HH3.o.ext ((Upd.refl none' w3).drewN _),HU3.o.drewN _⟩
    | none=>
     have HP2:=ZA (show x.get s=({x with nr:=x.nr+1},⟨#[]⟩,some (6,none)) by rw[HP.o,hlk];rfl);have HLK:=ZA hlk;clear hlk;go_wp2_with fail;go_quiet (fail);go_wp2_with (at_lookup;refine wpList_lookNone _ rfl _ _ rfl mb x.texts rfl (HM3.o _) s HLK.o HS.o rfl ?_);go_quiet (fail);go_wp2_with fail;go_ret2;rw[HP2.o];exact ⟨rfl,HH3.o.ext (((Upd.refl none' w3).drewN _).drewN _),(HU3.o.drewN _).drewN _⟩
   ·have hpi:¬(pl:Int) < x.rs.length:=by omega
    clear hiff hmem hpz;cases ta with
    | none=>
     cases hlk:lookL x.texts s with
     | some t=>
      have HP2:=ZA (show x.get s=({x with nr:=x.nr+1},t,none) by rw[HP.o,hlk];rfl);have HLK:=ZA hlk;clear hlk;go_wp2_with fail;go_quiet (fail);go_wp2_with (at_lookup;refine wpList_lookSome _ rfl _ _ rfl mb x.texts rfl (HM3.o _) s t HLK.o HS.o rfl ?_);go_ret2;rw[HP2.o];exact ⟨rfl,HH3.o.ext ((Upd.refl none' w3).drewN _),HU3.o.drewN _⟩
     | none=>
      have HP2:=ZA (show x.get s=({x with nr:=x.nr+1},⟨#[]⟩,some (6,none)) by rw[HP.o,hlk];rfl);have HLK:=ZA hlk;clear hlk;go_wp2_with fail;go_quiet (fail);go_wp2_with (at_lookup;refine wpList_lookNone _ rfl _ _ rfl mb x.texts rfl (HM3.o _) s HLK.o HS.o rfl ?_);go_quiet (fail);go_wp2_with fail;go_ret2;rw[HP2.o];exact ⟨rfl,HH3.o.ext (((Upd.refl none' w3).drewN _).drewN _),(HU3.o.drewN _).drewN _⟩
    | some ad=>
     cases hlk:lookL x.texts s with
     | some t=>
      have HP2:=ZA (show x.get s=({x with nr:=x.nr+1},t,none) by rw[HP.o,hlk];rfl);have HLK:=ZA hlk;clear hlk;go_wp2_with fail;go_quiet (fail);go_wp2_with (at_lookup;refine wpList_lookSome _ rfl _ _ rfl mb x.texts rfl (HM3.o _) s t HLK.o HS.o rfl ?_);go_ret2;rw[HP2.o];exact ⟨rfl,HH3.o.ext ((Upd.refl none' w3).drewN _),HU3.o.drewN _⟩
     | none=>
      have HP2:=ZA (show x.get s=({x with nr:=x.nr+1},⟨#[]⟩,some (6,none)) by rw[HP.o,hlk];rfl);have HLK:=ZA hlk;clear hlk;go_wp2_with fail;go_quiet (fail);go_wp2_with (at_lookup;refine wpList_lookNone _ rfl _ _ rfl mb x.texts rfl (HM3.o _) s HLK.o HS.o rfl ?_);go_quiet (fail);go_wp2_with fail;go_ret2;rw[HP2.o];exact ⟨rfl,HH3.o.ext (((Upd.refl none' w3).drewN _).drewN _),(HU3.o.drewN _).drewN _⟩
end Go.Proofs.YtjnjpgdoncbahaaGreatDoor
