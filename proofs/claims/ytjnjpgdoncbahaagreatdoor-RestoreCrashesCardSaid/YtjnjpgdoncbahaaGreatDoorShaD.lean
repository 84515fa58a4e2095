/- sha.Digest: its calls by contracts. sha.New, Copy, Sum by contracts. (*sha.Digest).Sum by contract. sha.Sum by contract. hash.Leaf, Node, Empty by contracts. A region that draws its order: operations that keep a law on worlds, walked once in the text's order, and a last one that waits for them all. Nothing of the program. -/
import Derived.Test.YtjnjpgdoncbahaaGreatDoorTyped2
import Derived.Test.YtjnjpgdoncbahaaGreatDoorTree
import Derived.Test.YtjnjpgdoncbahaaGreatDoorCode
import Derived.Lib.ConvBytes
import Derived.Test.YtjnjpgdoncbahaaGreatDoorAgg
namespace Go.Proofs.YtjnjpgdoncbahaaGreatDoor
open Go.RowKit Go.Lib
set_option maxRecDepth 20000
set_option maxHeartbeats 8000000
variable {B db g hb n:Nat}{rv:Value}
def shaStart:List Int:= [1779033703,3144134277,1013904242,2773480762,1359893119,2600822924,528734635,1541459225]
abbrev abs(h:List Int)(l:List UInt8):List Int:=absorb blockP h l
theorem blockP_len(h:List Int)(l:List UInt8):(blockP h l).length=8:=addL_len _ _ _
structure DigS (B:Nat) (w:World) (db hb:Nat) (rv:Value) (n:Nat) (hs:List Int) (r:List UInt8):Prop where
 blk:w.heap[db]? =some (.cells #[.pointer (some ⟨hb,0,none⟩),rv,.int .u64 (n:Int)] 407 (0,0))
 hblk:w.heap[hb]? =some (.cells (u32C hs).toArray 405 (0,0))
 row:w.ownsRow B 5 1 rv r.length (r.map u8v)
 len:hs.length=8
 lo1:B≤db
 lo2:B≤hb
def fpG(db hb:Nat)(rv:Value)(g:Nat):Prop:=g=db∨g=hb∨rv.ownBlock=some g
theorem DigS.upd{w w':World}{hs:List Int}{r:List UInt8}{S:Nat→Prop}(h:DigS B w db hb rv n hs r)(u:Upd S w w')(hS:∀g,fpG db hb rv g→¬S g):DigS B w' db hb rv n hs r:=
 ⟨u.blk h.blk (hS _ (.inl rfl)),u.blk h.hblk (hS _ (.inr (.inl rfl))),ownsRow_upd h.row u (fun g hg=> hS g (.inr (.inr hg))),h.len,h.lo1,h.lo2⟩
theorem DigS.ext{w w':World}{hs:List Int}{r:List UInt8}(h:DigS B w db hb rv n hs r)(u:Ext w w'):DigS B w' db hb rv n hs r:=h.upd u (fun _ _=> id)
theorem ShaTab.upd{S:Nat→Prop}{w w':World}(h:ShaTab w)(u:Upd S w w')(hS:¬S 21):ShaTab w':=fun k hk=> by have:=h k hk;rw[Upd.cell u (lt_of_cell this) hS];exact this
theorem DigS.setN{w:World}{hs:List Int}{r:List UInt8}(h:DigS B w db hb rv n hs r)(m:Nat):DigS B (w.setCell ⟨db,2,none⟩ (.int .u64 (m:Int))) db hb rv m hs r:=by have U:=(Upd.refl (one db) w).setCell (p:=⟨db,2,none⟩) (.inr rfl) (.int .u64 (m:Int));exact ⟨blk_set h.blk 2 _,U.blk h.hblk (tyNe h.hblk h.blk (by decide)),ownsRow_upd h.row U (rowNe h.row h.blk (by decide)),h.len,h.lo1,h.lo2⟩
theorem DigS.setR{w w':World}{rv':Value}{hs:List Int}{r r':List UInt8}{S:Nat→Prop}(h:DigS B w db hb rv n hs r)(u:Upd S w w')(h1:¬S db)(h2:¬S hb)(ho:w'.ownsRow B 5 1 rv' r'.length (r'.map u8v)):DigS B (w'.setCell ⟨db,1,none⟩ rv') db hb rv' n hs r':=by have U:=(Upd.refl (one db) w').setCell (p:=⟨db,1,none⟩) (.inr rfl) rv';have hb':=u.blk h.blk h1;have hh':=u.blk h.hblk h2;exact ⟨blk_set hb' 1 _,U.blk hh' (tyNe hh' hb' (by decide)),ownsRow_upd ho U (rowNe ho hb' (by decide)),h.len,h.lo1,h.lo2⟩
def WrRel(B db hb:Nat)(rc:Nat)(RA:Option Addr)(sg N:Nat)(hs:List Int)(y:List UInt8)(w:World)(bv:Value)(wr:World):Prop:=
 ∃(z:List UInt8) (so c:Nat) (h:List Int),bv= .slice (some ⟨sg,so,none⟩) z.length c∧z.length≤c∧CellsAt wr (some ⟨sg,so,none⟩) (z.map u8v)∧z.length≤y.length∧abs h z=abs hs y∧restB z=restB y∧DigS B wr db hb (.slice RA 0 rc) N h []∧Upd (one hb) w wr
theorem RowB.of{w:World}{o:Nat}{l:List UInt8}(h:CellsAt w (some ⟨g,o,none⟩) (l.map u8v))(hl:64≤l.length):RowB w g o l:=fun i hi=> by
 have hil:i < l.length:=by omega
 have:=h.cell (j:=i) (v:=u8v (l[i]'hil)) (by rw[List.getElem?_map,List.getElem?_eq_getElem hil];rfl);rw[this];simp[by8,List.getD_eq_getElem?_getD,hil]
theorem RowB.take{w:World}{o:Nat}{l:List UInt8}(h:RowB w g o l):RowB w g o (l.take 64):=fun i hi=> by rw[h i hi];simp[by8,List.getD_eq_getElem?_getD,hi]
theorem DigS.low{w:World}{hs:List Int}{r:List UInt8}(h:DigS B w db hb rv n hs r):∀g,fpG db hb rv g→B≤g:=fun g hg=> by
 rcases hg with rfl | rfl | e
 ·exact h.lo1
 ·exact h.lo2
 ·exact (h.row.lt g e).1
theorem DigS.setH{w w':World}{hs hs':List Int}{r:List UInt8}(h:DigS B w db hb rv n hs r)(u:Upd (one hb) w w')(hh:w'.heap[hb]? =some (.cells (u32C hs').toArray 405 (0,0)))(hl:hs'.length=8):DigS B w' db hb rv n hs' r:=
 ⟨u.blk h.blk (tyNe h.blk h.hblk (by decide)),hh,ownsRow_upd h.row u (rowNe h.row h.hblk (by decide)),hl,h.lo1,h.lo2⟩
def lenOf2:Value→Nat
 | .slice _ n _=> n
 | _=> 0
theorem write_any{w:World}{hs:List Int}{r:List UInt8}(D:DigS B w db hb rv n hs r)(hr:r.length < 64)(hB:B≤w.heap.size)(hG:21 < B)(htab:ShaTab w)
 (sg so:Nat) (x:List UInt8) (xc:Nat) (hxc:x.length≤xc) (hsrc:CellsAt w (some ⟨sg,so,none⟩) (x.map u8v)) (hsep:¬fpG db hb rv sg) (hn:n+x.length < 1152921504606846976) (hx:x.length < 1099511627776):
 Calls Tryz.prog 230 #[.pointer (some ⟨db,0,none⟩),.slice (some ⟨sg,so,none⟩) x.length xc] w fun e w'=> e= .returned (.tuple #[])∧
  ∃rv',DigS B w' db hb rv' (n+x.length) (abs hs (r++x)) (restB (r++x))∧(∀g,rv'.ownBlock=some g→rv.ownBlock=some g∨w.heap.size≤g)∧Upd (fpG db hb rv) w w':=by
 obtain ⟨i0,hi0,hz0,hz1,hz2⟩:=info_parts info_u8;obtain ⟨RA,rc,rfl⟩:=own_sl D.row;have HD:=ZA D;have HB:=ZA hB;have HT:=ZA htab;have HSRC:=ZA hsrc;have HSEP:=ZA hsep;have b0:w.cell? ⟨db,0,none⟩=some (.pointer (some ⟨hb,0,none⟩)):=cell_of_blk D.blk 0;have b2:w.cell? ⟨db,2,none⟩=some (.int .u64 (n:Int)):=cell_of_blk D.blk 2;have f2:=free_of_blk D.blk 2;have hn1:(n:Int)+x.length < 1152921504606846976:=by omega
 have hx1:(x.length:Int) < 1099511627776:=by omega
 have HD1:=ZA (D.setN (n+x.length));have HU1:=ZA (show Upd (fpG db hb (.slice RA r.length rc)) w (w.setCell ⟨db,2,none⟩ (.int .u64 ((n+x.length:Nat):Int))) from (Upd.refl _ w).setCell (p:=⟨db,2,none⟩) (.inr (.inl rfl)) _);have b1':(w.setCell ⟨db,2,none⟩ (.int .u64 ((n:Int)+x.length))).cell? ⟨db,1,none⟩=some (.slice RA r.length rc):=by have:=cell_of_blk HD1.o.blk 1;simpa using this
 have b0':(w.setCell ⟨db,2,none⟩ (.int .u64 ((n:Int)+x.length))).cell? ⟨db,0,none⟩=some (.pointer (some ⟨hb,0,none⟩)):=by have:=cell_of_blk HD1.o.blk 0;simpa using this
 have f1':(w.setCell ⟨db,2,none⟩ (.int .u64 ((n:Int)+x.length))).frozen? ⟨db,1,none⟩=false:=by have:=free_of_blk HD1.o.blk 1;simpa using this
 clear D hB htab hsrc hsep;by_cases hr0:r= []
 ·subst hr0;go_enter Tryz.func230,Tryz.ntmps230;go_wp2_with fail;have HDT:=ZA (show DigS B (w.setCell ⟨db,2,none⟩ (.int .u64 ((n:Int)+x.length))) db hb (.slice RA 0 rc) (n+x.length) hs [] from by have:=HD1.o;simpa using this);have HUT:=ZA (show Upd (fpG db hb (.slice RA 0 rc)) w (w.setCell ⟨db,2,none⟩ (.int .u64 ((n:Int)+x.length))) from by have:=HU1.o;simpa using this);clear HD1 HU1 b0 b2 f2 b1' b0' f1' hn1;generalize w.setCell ⟨db,2,none⟩ (.int .u64 ((n:Int)+x.length))=W at*;have HTT:=ZA (show ShaTab W from HT.o.upd HUT.o (fun e=> by have:=HD.o.low _ e;omega));have HST:=ZA (show CellsAt W (some ⟨sg,so,none⟩) (x.map u8v) from HSRC.o.upd HUT.o (fun ad e=> by cases e;exact HSEP.o));have HXC:=ZA hxc;have HYL:=ZA (Nat.le_refl x.length);clear hxc hn;go_loopw [1] (fun bv wr=> WrRel B db hb rc RA sg (n+x.length) hs x W bv wr) (fun bv _=> lenOf2 bv);case atStart=> exact ⟨_,_,_,_,rfl,HXC.o,HST.o,Nat.le_refl _,rfl,rfl,HDT.o,Upd.refl _ _⟩
  case round=>
   obtain ⟨z,so',c,h,rfl,hzc,hsrc,hzy,ha,hrest,hd,hu⟩:=hrel;have HD3:=ZA hd;have HU3:=ZA hu;have HS3:=ZA hsrc;have HA3:=ZA ha;have HR3:=ZA hrest;have HX3:=ZA hx;have b0:wr.cell? ⟨db,0,none⟩=some (.pointer (some ⟨hb,0,none⟩)):=cell_of_blk hd.blk 0;have b1:wr.cell? ⟨db,1,none⟩=some (.slice RA 0 rc):=cell_of_blk hd.blk 1;have f1:=free_of_blk hd.blk 1;have hzi1:(z.length:Int)≤c:=by omega
   have hzx:z.length≤x.length:=Nat.le_trans hzy HYL.o;have hzi3:(z.length:Int) < 1099511627776:=by have:=HX3.o;omega
   have HZY:=ZA hzy;clear hd hu hsrc ha hrest hx hzy;by_cases hz:64≤z.length
   ·have hzi:(64:Int)≤z.length:=by omega
    have hzi2:(64:Int)≤c:=by omega
    have C:=block_any wr.drew hb sg so' c h (z.take 64) (HD3.o.ext ((Upd.refl none' wr).drew)).hblk HD3.o.len (RowB.take (RowB.of (HS3.o.ext ((Upd.refl none' wr).drew)) hz)) (HTT.o.upd (HU3.o.drew) (fun e=> by have:21=hb:=e;have:=HD3.o.lo2;omega));have HC:=ZA hzc;have HD4:=ZA (HD3.o.ext ((Upd.refl none' wr).drew));have ha2:abs h z=abs (blockP h (z.take 64)) (z.drop 64):=absorb_ge blockP hz;have hr2:restB z=restB (z.drop 64):=restB_ge hz;have HA4:=ZA ha2;have HR4:=ZA hr2;have hld:(z.drop 64).length=z.length - 64:=List.length_drop;have HLD:=ZA hld;clear ha2 hr2 hzc hld;by_cases hcap:c=64
    ·have hcc:(c:Int)=64:=by omega
     have HCAP:=ZA hcap;subst hcap;have hz64:z.length=64:=by have:=HC.o;omega
     have HZ64:=ZA hz64;have hzl:(z.length:Int)=64:=by omega
     clear hcc;go_wp2_with fail;go_still_tail 6,(by kernel_rfl);go_wp2_with fail;refine C.mono ?_;rintro e w5 ⟨rfl,hh5,u5⟩;clear hz64;go_wp2_with fail;refine ⟨⟨z.drop 64,so',0,blockP h (z.take 64),by rw[HLD.o,HZ64.o],by rw[HLD.o,HZ64.o];decide,?_,by have:=HZY.o;rw[HLD.o];omega,by rw[←HA4.o];exact HA3.o,by rw[←HR4.o];exact HR3.o,?_,HU3.o.drew.then u5 (fun _ _ h=> h)⟩,?_⟩
     ·rw[List.drop_of_length_le (by rw[HZ64.o];omega)];exact CellsAt.nil _ _
     ·exact HD4.o.setH u5 hh5 (blockP_len _ _)
     ·have:=HZ64.o;simp[lenOf2];omega
    ·have hcl:(64:Int) < c:=by have:=HC.o;omega
     have hcne:¬((c:Int) - 64=0):=by omega
     go_wp2_with fail;go_still_tail 6,(by kernel_rfl);go_wp2_with fail;refine C.mono ?_;rintro e w5 ⟨rfl,hh5,u5⟩;go_wp2_with fail;refine ⟨⟨z.drop 64,so'+64,c - 64,blockP h (z.take 64),by rw[HLD.o],by rw[HLD.o];have:=HC.o;omega,?_,by have:=HZY.o;rw[HLD.o];omega,by rw[←HA4.o];exact HA3.o,by rw[←HR4.o];exact HR3.o,?_,HU3.o.drew.then u5 (fun _ _ h=> h)⟩,?_⟩
     ·have h2:=(HS3.o.ext ((Upd.refl none' wr).drew)).drop 64;rw[←List.map_drop] at h2;refine h2.upd u5 (fun ad e=> ?_);cases e
      exact fun e=> HSEP.o (.inr (.inl e))
     ·exact HD4.o.setH u5 hh5 (blockP_len _ _)
     ·simp[lenOf2];omega
   ·have hzl:¬(64:Int)≤z.length:=by omega
    have HAE:=ZA (show abs h z=h from absorb_lt blockP (by omega));have HRE:=ZA (show restB z=z from restB_small (by omega));have HRW:=ZA (show wr.ownsRow B 5 1 (.slice RA 0 rc) 0 [] from HD3.o.row);have HLN:=ZA (show (z.map u8v).length=z.length*1 by simp);have HM:=ZA (show 0+z.length≤maxLen∧(0+z.length)*1≤140737488355328 by unfold maxLen;omega);have HBW:=ZA (show B≤wr.heap.size from Nat.le_trans HD3.o.lo1 (Nat.le_of_lt (lt_of_blk HD3.o.blk)));have H1:=ZA (u8_ones z);go_wp2_with (at_builtin;refine wpList_appX rfl _ _ 50 rfl B 5 i0 _ 1 1 Tryz.underlying50 hi0 hz0 hz1 hz2 rfl (by decide) (.slice RA 0 rc) 0 [] rfl HRW.o (some ⟨sg,so',none⟩) z.length c (z.map u8v) rfl HLN.o HS3.o H1.o HM.o.1 HM.o.2 HBW.o ?_;intro A' c' w6 hown hgrow hat;simp only[Nat.zero_add,List.nil_append] at hown hat;have U6:=ZA ((Upd.refl (fun g=> (Value.slice RA 0 rc).ownBlock=some g) wr).grown hgrow (fun k hk=> .inr hk));have HB6:=ZA (U6.o.blk HD3.o.blk (fun e=> rowNe HD3.o.row HD3.o.blk (by decide) db e rfl));have b1:=cell_of_blk HB6.o 1;have f1:=free_of_blk HB6.o 1;have HOWN:=ZA hown;have HAT:=ZA hat;clear hown hat hgrow);go_end0;have e1:abs hs (x)=h:=HA3.o.symm.trans HAE.o;have e2:restB (x)=z:=HR3.o.symm.trans HRE.o;rw[e1,e2];have U0:Upd (fpG db hb (.slice RA 0 rc)) w wr:=HUT.o.then HU3.o (fun _ _ e=> .inr (.inl e));refine ⟨rfl,.slice A' z.length c',?_,fun g hg=> ?_,?_⟩
    ·exact HD3.o.setR U6.o (fun e=> rowNe HD3.o.row HD3.o.blk (by decide) db e rfl) (fun e=> rowNe HD3.o.row HD3.o.hblk (by decide) hb e rfl) HOWN.o
    ·rcases HAT.o with h1 | h1
     ·rw[h1] at hg;left;exact hg
     ·right;rw[h1] at hg;cases hg;exact U0.size
    ·exact (U0.then U6.o (fun b hb e=> by exact .inr (.inr e))).setCell (p:=⟨db,1,none⟩) (.inr (.inl rfl)) _
 ·have hrl:0 < r.length:=List.length_pos_iff.2 hr0;have HR0:=ZA hr0;clear hr0;have hrl1:(0:Int) < r.length:=by omega
  have hrl2:(r.length:Int) < 64:=by omega
  have HDT:=ZA (show DigS B (w.setCell ⟨db,2,none⟩ (.int .u64 ((n:Int)+x.length))) db hb (.slice RA r.length rc) (n+x.length) hs r from by have:=HD1.o;simpa using this);have HUT:=ZA (show Upd (fpG db hb (.slice RA r.length rc)) w (w.setCell ⟨db,2,none⟩ (.int .u64 ((n:Int)+x.length))) from by have:=HU1.o;simpa using this);have HH1:=ZA (u8_ones x);have HBW:=ZA (show B≤(w.setCell ⟨db,2,none⟩ (.int .u64 ((n:Int)+x.length))).drew.heap.size from Nat.le_trans HB.o HUT.o.size);clear HD1 HU1;by_cases hsum:r.length+x.length < 64
  ·have hmin:min ((64:Int) - r.length) x.length=x.length:=by omega
   have hs1:(r.length:Int)+x.length < 64:=by omega
   have HLN:=ZA (show (x.map u8v).length=x.length*1 by simp);have HM:=ZA (show r.length+x.length≤maxLen∧(r.length+x.length)*1≤140737488355328 by unfold maxLen;omega);go_enter Tryz.func230,Tryz.ntmps230;go_wp2_with fail;clear b0 b2 f2 b1' b0' f1' hn1;generalize w.setCell ⟨db,2,none⟩ (.int .u64 ((n:Int)+x.length))=W at*;have b1:W.cell? ⟨db,1,none⟩=some (.slice RA r.length rc):=cell_of_blk HDT.o.blk 1;have f1:=free_of_blk HDT.o.blk 1;have HD5:=ZA (HDT.o.ext ((Upd.refl none' W).drew));have HST:=ZA (show CellsAt W.drew (some ⟨sg,so,none⟩) (x.map u8v) from (HSRC.o.upd HUT.o (fun ad e=> by cases e;exact HSEP.o)).ext ((Upd.refl none' W).drew));go_region_law (refine step_appX (by rfl) _ _ 50 (by rfl) B 5 i0 _ 1 1 Tryz.underlying50 hi0 hz0 hz1 hz2 rfl (by decide) (.slice RA r.length rc) r.length (r.map u8v) (by rfl) HD5.o.row (some ⟨sg,so,none⟩) x.length xc (x.map u8v) (by rfl) HLN.o HST.o HH1.o HM.o.1 HM.o.2 HBW.o ?_;intro A' c' w6 hown hgrow hat;have U6:=ZA ((Upd.refl (fun g=> (Value.slice RA r.length rc).ownBlock=some g) W.drew).grown hgrow (fun k hk=> .inr hk));have HB6:=ZA (U6.o.blk HD5.o.blk (fun e=> rowNe HD5.o.row HD5.o.blk (by decide) db e rfl));have b1:=cell_of_blk HB6.o 1;have f1:=free_of_blk HB6.o 1;have HOWN:=ZA hown;have HAT:=ZA hat;clear hown hat hgrow);have HD7:=ZA (HD5.o.setR (r':=r++x) (rv':= .slice A' (r.length+x.length) c') U6.o (fun e=> rowNe HD5.o.row HD5.o.blk (by decide) db e rfl) (fun e=> rowNe HD5.o.row HD5.o.hblk (by decide) hb e rfl) (by have:=HOWN.o;rw[List.length_append,List.map_append];exact this));have HU7:=ZA (show Upd (fpG db hb (.slice RA r.length rc)) w (w6.setCell ⟨db,1,none⟩ (.slice A' (r.length+x.length) c')) from ((HUT.o.drew).then U6.o (fun _ _ e=> .inr (.inr e))).setCell (p:=⟨db,1,none⟩) (.inr (.inl rfl)) _);have HSZ:=ZA (show w.heap.size≤W.drew.heap.size from HUT.o.size);clear b1 f1 HB6 HOWN U6;generalize w6.setCell ⟨db,1,none⟩ (.slice A' (r.length+x.length) c')=W7 at*;have b17:W7.cell? ⟨db,1,none⟩=some (.slice A' (r.length+x.length) c'):=cell_of_blk HD7.o.blk 1;have HAE:=ZA (show abs hs (r++x)=hs from absorb_lt blockP (by simp;omega));have HRE:=ZA (show restB (r++x)=r++x from restB_small (by simp;omega));rcases Nat.lt_or_ge x.length xc with hxx | hxx
   ·have hx2:(x.length:Int) < xc:=by omega
    have hx3:¬((xc:Int) - x.length=0):=by omega
    go_wp2_with fail;refine bodyPost_ret (results_none rfl _ _ _) rfl ?_;refine ⟨rfl,_,by rw[HAE.o,HRE.o];exact HD7.o,fun g hg=> ?_,HU7.o⟩;rcases HAT.o with h1 | h1
    ·left;rw[h1] at hg;exact hg
    ·right;rw[h1] at hg;cases hg;exact HSZ.o
   ·obtain rfl:xc=x.length:=by omega
    go_wp2_with fail;refine bodyPost_ret (results_none rfl _ _ _) rfl ?_;refine ⟨rfl,_,by rw[HAE.o,HRE.o];exact HD7.o,fun g hg=> ?_,HU7.o⟩;rcases HAT.o with h1 | h1
    ·left;rw[h1] at hg;exact hg
    ·right;rw[h1] at hg;cases hg;exact HSZ.o
  ·obtain ⟨k,hk⟩:∃k,r.length+k=64:=⟨64 - r.length,by omega⟩;have hkx:k≤x.length:=by omega
   have hmin:min (k:Int) x.length=k:=by omega
   have hke:(64:Int) - r.length=k:=by omega
   have HK:=ZA hk;have hk1:(k:Int)≤x.length:=by omega
   have hk2:(k:Int)≤xc:=by omega
   have hk3:(0:Int)≤k:=by omega
   have hk5:k≤xc:=by omega
   have hk4:(k:Int) < 64:=by omega
   have hnl:¬((r.length:Int)+k < 64):=by omega
   have htl:(x.take k).length=k:=by rw[List.length_take];omega
   have HLN:=ZA (show ((x.take k).map u8v).length=k*1 by simp;omega);have HM:=ZA (show r.length+k≤maxLen∧(r.length+k)*1≤140737488355328 by unfold maxLen;omega);have HH1:=ZA (u8_ones (x.take k));have HTL:=ZA htl;clear htl hk;go_enter Tryz.func230,Tryz.ntmps230;go_wp2_with fail;clear b0 b2 f2 b1' b0' f1' hn1;generalize w.setCell ⟨db,2,none⟩ (.int .u64 ((n:Int)+x.length))=W at*;have b1:W.cell? ⟨db,1,none⟩=some (.slice RA r.length rc):=cell_of_blk HDT.o.blk 1;have f1:=free_of_blk HDT.o.blk 1;have HD5:=ZA (HDT.o.ext ((Upd.refl none' W).drew));have HSX:=ZA (show CellsAt W (some ⟨sg,so,none⟩) (x.map u8v) from HSRC.o.upd HUT.o (fun ad e=> by cases e;exact HSEP.o));have HST:=ZA (show CellsAt W.drew (some ⟨sg,so,none⟩) ((x.take k).map u8v) from by rw[List.map_take];exact (HSX.o.ext ((Upd.refl none' W).drew)).take k);go_region_law (refine step_appX (by rfl) _ _ 50 (by rfl) B 5 i0 _ 1 1 Tryz.underlying50 hi0 hz0 hz1 hz2 rfl (by decide) (.slice RA r.length rc) r.length (r.map u8v) (by rfl) HD5.o.row (some ⟨sg,so,none⟩) k xc ((x.take k).map u8v) (by rfl) HLN.o HST.o HH1.o HM.o.1 HM.o.2 HBW.o ?_;intro A' c' w6 hown hgrow hat;have U6:=ZA ((Upd.refl (fun g=> (Value.slice RA r.length rc).ownBlock=some g) W.drew).grown hgrow (fun k hk=> .inr hk));have HB6:=ZA (U6.o.blk HD5.o.blk (fun e=> rowNe HD5.o.row HD5.o.blk (by decide) db e rfl));have b1:=cell_of_blk HB6.o 1;have f1:=free_of_blk HB6.o 1;have HOWN:=ZA hown;have HAT:=ZA hat;clear hown hat hgrow);have hform:=own_form HOWN.o;rcases hform with ⟨_,h0⟩ | ⟨g7,cap7,hv,_⟩
   ·exact absurd h0 (by have:=HK.o;omega)
   simp only[Value.slice.injEq,true_and] at hv;obtain ⟨rfl,rfl⟩:=hv;obtain ⟨c7,hc7⟩:∃c7,c7=c':=⟨_,rfl⟩;subst hc7;have HD7:=ZA (HD5.o.setR (r':=r++x.take k) (rv':= .slice (some ⟨g7,0,none⟩) (r.length+k) c7) U6.o (fun e=> rowNe HD5.o.row HD5.o.blk (by decide) db e rfl) (fun e=> rowNe HD5.o.row HD5.o.hblk (by decide) hb e rfl) (by have:=HOWN.o;rw[List.length_append,List.map_append,HTL.o];exact this));have HU7:=ZA (show Upd (fpG db hb (.slice RA r.length rc)) w (w6.setCell ⟨db,1,none⟩ (.slice (some ⟨g7,0,none⟩) (r.length+k) c7)) from ((HUT.o.drew).then U6.o (fun _ _ e=> .inr (.inr e))).setCell (p:=⟨db,1,none⟩) (.inr (.inl rfl)) _);have HG2:=ZA (show g7≥w.heap.size∨(Value.slice RA r.length rc).ownBlock=some g7 from by
    rcases HAT.o with h1 | h1
    ·exact .inr h1.symm
    ·left;have h2:g7=W.drew.heap.size:=by simpa[Value.ownBlock] using h1
     rw[h2];exact HUT.o.size)
   clear b1 f1 HB6 HOWN U6 HAT;generalize w6.setCell ⟨db,1,none⟩ (.slice (some ⟨g7,0,none⟩) (r.length+k) c7)=W7 at*;have hl64:r.length+k=64:=HK.o;rw[hl64] at HD7;have HL64:=ZA hl64;clear hl64;have b17:W7.cell? ⟨db,1,none⟩=some (.slice (some ⟨g7,0,none⟩) 64 c7):=cell_of_blk HD7.o.blk 1;have b07:W7.cell? ⟨db,0,none⟩=some (.pointer (some ⟨hb,0,none⟩)):=cell_of_blk HD7.o.blk 0;have HR7:=ZA (show W7.ownsRow B 5 1 (.slice (some ⟨g7,0,none⟩) 64 c7) 64 ((r++x.take k).map u8v) from by have:=HD7.o.row;rw[List.length_append,HTL.o,HL64.o] at this;exact this);have C:=block_any W7.drew hb g7 0 c7 hs (r++x.take k) (HD7.o.ext ((Upd.refl none' W7).drew)).hblk HD7.o.len (RowB.of (CellsAt.ext (CellsAt.row HR7.o) ((Upd.refl none' W7).drew)) (by rw[List.length_append,HTL.o,HL64.o];exact Nat.le_refl _)) ((HT.o.upd HU7.o (fun e=> by have:=HD.o.low _ e;omega)).ext ((Upd.refl none' W7).drew));rcases Nat.lt_or_ge k xc with hxx | hxx
   ·have hx2:(k:Int) < xc:=by omega
    have hx3:¬((xc:Int) - k=0):=by omega
    go_wp2_with fail;go_still_tail 8,(by kernel_rfl);go_wp2_with fail;refine C.mono ?_;rintro e w8 ⟨rfl,hh8,u8⟩;have HD8:=ZA ((HD7.o.ext ((Upd.refl none' W7).drew)).setH u8 hh8 (blockP_len _ _));have HU8:=ZA (show Upd (fpG db hb (.slice RA r.length rc)) w w8 from HU7.o.drew.then u8 (fun _ _ e=> .inr (.inl e)));have b18:w8.cell? ⟨db,1,none⟩=some (.slice (some ⟨g7,0,none⟩) 64 c7):=cell_of_blk HD8.o.blk 1;have f18:=free_of_blk HD8.o.blk 1;clear b17 b07 hh8 u8;go_wp2_with fail;have HR8:=ZA (show w8.ownsRow B 5 1 (.slice (some ⟨g7,0,none⟩) 0 c7) ([]:List UInt8).length (([]:List UInt8).map u8v) from by have h:=HD8.o.row;rw[List.length_append,HTL.o,HL64.o] at h;have h2:=row_cut h (Nat.zero_le 64);simpa using h2)
    have HD9:=ZA (HD8.o.setR (Upd.refl none' w8) id id HR8.o);have HU9:=ZA (HU8.o.setCell (p:=⟨db,1,none⟩) (.inr (.inl rfl)) (.slice (some ⟨g7,0,none⟩) 0 c7));have hfst:(r++x).take 64=r++x.take k:=by rw[List.take_append,List.take_of_length_le (by have:=HL64.o;omega),show 64 - r.length=k by have:=HL64.o;omega]
    have hsnd:(r++x).drop 64=x.drop k:=by rw[List.drop_append,List.drop_of_length_le (by have:=HL64.o;omega),List.nil_append,show 64 - r.length=k by have:=HL64.o;omega]
    have hle:64≤(r++x).length:=by rw[List.length_append];have:=HL64.o;omega
    have HWAY1:=ZA (show abs hs (r++x)=abs (blockP hs (r++x.take k)) (x.drop k) from by rw[←hfst,←hsnd];exact absorb_ge blockP hle);have HWAY2:=ZA (show restB (r++x)=restB (x.drop k) from by rw[←hsnd];exact restB_ge hle);clear hfst hsnd hle b18 f18 HD8 HU8 HR8;generalize hW9:w8.setCell ⟨db,1,none⟩ (.slice (some ⟨g7,0,none⟩) 0 c7)=W9 at*;have hUX:=HU9.o;have HT9:=ZA (show ShaTab W9 from HT.o.upd hUX (fun e=> by have:=HD.o.low _ e;omega));have HS9:=ZA (show CellsAt W9 (some ⟨sg,so+k,none⟩) ((x.drop k).map u8v) from by rw[List.map_drop];exact (HSRC.o.upd hUX (fun ad e=> by cases e;exact HSEP.o)).drop k);have HXC9:=ZA (show (x.drop k).length≤(xc - k) by rw[List.length_drop];omega);have HSL:=ZA (show Value.slice (some ⟨sg,so+k,none⟩) (x.length - k) (xc - k)= .slice (some ⟨sg,so+k,none⟩) (x.drop k).length (xc - k) by rw[List.length_drop]);have HYL:=ZA (show (x.drop k).length≤x.length from by rw[List.length_drop];exact Nat.sub_le _ _);clear hW9 hUX hxc hn hkx hk1;generalize blockP hs (r++x.take k)=hs9 at*;go_loopw [1] (fun bv wr=> WrRel B db hb c7 (some ⟨g7,0,none⟩) sg (n+x.length) hs9 (x.drop k) W9 bv wr) (fun bv _=> lenOf2 bv);case atStart=> exact ⟨_,_,_,_,HSL.o,HXC9.o,HS9.o,Nat.le_refl _,rfl,rfl,HD9.o,Upd.refl _ _⟩
    case round=>
     obtain ⟨z,so',c,h,rfl,hzc,hsrc,hzy,ha,hrest,hd,hu⟩:=hrel;have HD3:=ZA hd;have HU3:=ZA hu;have HS3:=ZA hsrc;have HA3:=ZA ha;have HR3:=ZA hrest;have HX3:=ZA hx;have b0:wr.cell? ⟨db,0,none⟩=some (.pointer (some ⟨hb,0,none⟩)):=cell_of_blk hd.blk 0;have b1:wr.cell? ⟨db,1,none⟩=some (.slice (some ⟨g7,0,none⟩) 0 c7):=cell_of_blk hd.blk 1;have f1:=free_of_blk hd.blk 1;have hzi1:(z.length:Int)≤c:=by omega
     have hzx:z.length≤x.length:=Nat.le_trans hzy HYL.o;have hzi3:(z.length:Int) < 1099511627776:=by have:=HX3.o;omega
     have HZY:=ZA hzy;clear hd hu hsrc ha hrest hx hzy;by_cases hz:64≤z.length
     ·have hzi:(64:Int)≤z.length:=by omega
      have hzi2:(64:Int)≤c:=by omega
      have C:=block_any wr.drew hb sg so' c h (z.take 64) (HD3.o.ext ((Upd.refl none' wr).drew)).hblk HD3.o.len (RowB.take (RowB.of (HS3.o.ext ((Upd.refl none' wr).drew)) hz)) (HT9.o.upd (HU3.o.drew) (fun e=> by have:21=hb:=e;have:=HD3.o.lo2;omega));have HC:=ZA hzc;have HD4:=ZA (HD3.o.ext ((Upd.refl none' wr).drew));have ha2:abs h z=abs (blockP h (z.take 64)) (z.drop 64):=absorb_ge blockP hz;have hr2:restB z=restB (z.drop 64):=restB_ge hz;have HA4:=ZA ha2;have HR4:=ZA hr2;have hld:(z.drop 64).length=z.length - 64:=List.length_drop;have HLD:=ZA hld;clear ha2 hr2 hzc hld;by_cases hcap:c=64
      ·have hcc:(c:Int)=64:=by omega
       have HCAP:=ZA hcap;subst hcap;have hz64:z.length=64:=by have:=HC.o;omega
       have HZ64:=ZA hz64;have hzl:(z.length:Int)=64:=by omega
       clear hcc;go_wp2_with fail;go_still_tail 6,(by kernel_rfl);go_wp2_with fail;refine C.mono ?_;rintro e w5 ⟨rfl,hh5,u5⟩;clear hz64;go_wp2_with fail;refine ⟨⟨z.drop 64,so',0,blockP h (z.take 64),by rw[HLD.o,HZ64.o],by rw[HLD.o,HZ64.o];decide,?_,by have:=HZY.o;rw[HLD.o];omega,by rw[←HA4.o];exact HA3.o,by rw[←HR4.o];exact HR3.o,?_,HU3.o.drew.then u5 (fun _ _ h=> h)⟩,?_⟩
       ·rw[List.drop_of_length_le (by rw[HZ64.o];omega)];exact CellsAt.nil _ _
       ·exact HD4.o.setH u5 hh5 (blockP_len _ _)
       ·have:=HZ64.o;simp[lenOf2];omega
      ·have hcl:(64:Int) < c:=by have:=HC.o;omega
       have hcne:¬((c:Int) - 64=0):=by omega
       go_wp2_with fail;go_still_tail 6,(by kernel_rfl);go_wp2_with fail;refine C.mono ?_;rintro e w5 ⟨rfl,hh5,u5⟩;go_wp2_with fail;refine ⟨⟨z.drop 64,so'+64,c - 64,blockP h (z.take 64),by rw[HLD.o],by rw[HLD.o];have:=HC.o;omega,?_,by have:=HZY.o;rw[HLD.o];omega,by rw[←HA4.o];exact HA3.o,by rw[←HR4.o];exact HR3.o,?_,HU3.o.drew.then u5 (fun _ _ h=> h)⟩,?_⟩
       ·have h2:=(HS3.o.ext ((Upd.refl none' wr).drew)).drop 64;rw[←List.map_drop] at h2;refine h2.upd u5 (fun ad e=> ?_);cases e
        exact fun e=> HSEP.o (.inr (.inl e))
       ·exact HD4.o.setH u5 hh5 (blockP_len _ _)
       ·simp[lenOf2];omega
     ·have hzl:¬(64:Int)≤z.length:=by omega
      have HAE:=ZA (show abs h z=h from absorb_lt blockP (by omega));have HRE:=ZA (show restB z=z from restB_small (by omega));have HRW:=ZA (show wr.ownsRow B 5 1 (.slice (some ⟨g7,0,none⟩) 0 c7) 0 [] from HD3.o.row);have HLN:=ZA (show (z.map u8v).length=z.length*1 by simp);have HM:=ZA (show 0+z.length≤maxLen∧(0+z.length)*1≤140737488355328 by unfold maxLen;omega);have HBW:=ZA (show B≤wr.heap.size from Nat.le_trans HD3.o.lo1 (Nat.le_of_lt (lt_of_blk HD3.o.blk)));have H1:=ZA (u8_ones z);go_wp2_with (at_builtin;refine wpList_appX rfl _ _ 50 rfl B 5 i0 _ 1 1 Tryz.underlying50 hi0 hz0 hz1 hz2 rfl (by decide) (.slice (some ⟨g7,0,none⟩) 0 c7) 0 [] rfl HRW.o (some ⟨sg,so',none⟩) z.length c (z.map u8v) rfl HLN.o HS3.o H1.o HM.o.1 HM.o.2 HBW.o ?_;intro A' c' w6 hown hgrow hat;simp only[Nat.zero_add,List.nil_append] at hown hat;have U6:=ZA ((Upd.refl (fun g=> (Value.slice (some ⟨g7,0,none⟩) 0 c7).ownBlock=some g) wr).grown hgrow (fun k hk=> .inr hk));have HB6:=ZA (U6.o.blk HD3.o.blk (fun e=> rowNe HD3.o.row HD3.o.blk (by decide) db e rfl));have b1:=cell_of_blk HB6.o 1;have f1:=free_of_blk HB6.o 1;have HOWN:=ZA hown;have HAT:=ZA hat;clear hown hat hgrow);go_end0;have e1:abs hs (r++x)=h:=HWAY1.o.trans (HA3.o.symm.trans HAE.o);have e2:restB (r++x)=z:=HWAY2.o.trans (HR3.o.symm.trans HRE.o);rw[e1,e2];have U0:Upd (fpG db hb (.slice RA r.length rc)) w wr:=HU9.o.then HU3.o (fun _ _ e=> .inr (.inl e));refine ⟨rfl,.slice A' z.length c',?_,fun g hg=> ?_,?_⟩
      ·exact HD3.o.setR U6.o (fun e=> rowNe HD3.o.row HD3.o.blk (by decide) db e rfl) (fun e=> rowNe HD3.o.row HD3.o.hblk (by decide) hb e rfl) HOWN.o
      ·rcases HAT.o with h1 | h1
       ·rw[h1] at hg;cases hg;exact HG2.o.symm
       ·right;rw[h1] at hg;cases hg;exact U0.size
      ·exact (U0.then U6.o (fun b hb e=> by have e2:g7=b:=(by simpa[Value.ownBlock] using e);subst e2;exact HG2.o.elim (fun h=> absurd hb (Nat.not_lt.2 h)) (fun h=> .inr (.inr h)))).setCell (p:=⟨db,1,none⟩) (.inr (.inl rfl)) _
   ·obtain rfl:k=xc:=by omega
    have hx4:(k:Int) - k=0:=by omega
    have hx5:(x.length:Int) - k=0:=by omega
    have hx6:x.length=k:=by omega
    have HX6:=ZA hx6;clear hx6;go_wp2_with fail;go_still_tail 8,(by kernel_rfl);go_wp2_with fail;refine C.mono ?_;rintro e w8 ⟨rfl,hh8,u8⟩;have HD8:=ZA ((HD7.o.ext ((Upd.refl none' W7).drew)).setH u8 hh8 (blockP_len _ _));have HU8:=ZA (show Upd (fpG db hb (.slice RA r.length rc)) w w8 from HU7.o.drew.then u8 (fun _ _ e=> .inr (.inl e)));have b18:w8.cell? ⟨db,1,none⟩=some (.slice (some ⟨g7,0,none⟩) 64 c7):=cell_of_blk HD8.o.blk 1;have f18:=free_of_blk HD8.o.blk 1;clear b17 b07 hh8 u8;go_wp2_with fail;have HR8:=ZA (show w8.ownsRow B 5 1 (.slice (some ⟨g7,0,none⟩) 0 c7) ([]:List UInt8).length (([]:List UInt8).map u8v) from by have h:=HD8.o.row;rw[List.length_append,HTL.o,HL64.o] at h;have h2:=row_cut h (Nat.zero_le 64);simpa using h2)
    have HD9:=ZA (HD8.o.setR (Upd.refl none' w8) id id HR8.o);have HU9:=ZA (HU8.o.setCell (p:=⟨db,1,none⟩) (.inr (.inl rfl)) (.slice (some ⟨g7,0,none⟩) 0 c7));have hfst:(r++x).take 64=r++x.take k:=by rw[List.take_append,List.take_of_length_le (by have:=HL64.o;omega),show 64 - r.length=k by have:=HL64.o;omega]
    have hsnd:(r++x).drop 64=x.drop k:=by rw[List.drop_append,List.drop_of_length_le (by have:=HL64.o;omega),List.nil_append,show 64 - r.length=k by have:=HL64.o;omega]
    have hle:64≤(r++x).length:=by rw[List.length_append];have:=HL64.o;omega
    have HWAY1:=ZA (show abs hs (r++x)=abs (blockP hs (r++x.take k)) (x.drop k) from by rw[←hfst,←hsnd];exact absorb_ge blockP hle);have HWAY2:=ZA (show restB (r++x)=restB (x.drop k) from by rw[←hsnd];exact restB_ge hle);clear hfst hsnd hle b18 f18 HD8 HU8 HR8;generalize hW9:w8.setCell ⟨db,1,none⟩ (.slice (some ⟨g7,0,none⟩) 0 c7)=W9 at*;have hUX:=HU9.o;have HT9:=ZA (show ShaTab W9 from HT.o.upd hUX (fun e=> by have:=HD.o.low _ e;omega));have HS9:=ZA (show CellsAt W9 (some ⟨sg,so,none⟩) ((x.drop k).map u8v) from by rw[List.drop_of_length_le (by have:=HX6.o;omega)];exact CellsAt.nil _ _);have HXC9:=ZA (show (x.drop k).length≤0 by rw[List.length_drop];have:=HX6.o;omega);have HSL:=ZA (show Value.slice (some ⟨sg,so,none⟩) 0 0= .slice (some ⟨sg,so,none⟩) (x.drop k).length 0 by rw[List.length_drop];congr 1;have:=HX6.o;omega);have HYL:=ZA (show (x.drop k).length≤x.length from by rw[List.length_drop];exact Nat.sub_le _ _);clear hW9 hUX hxc hn hkx hk1;generalize blockP hs (r++x.take k)=hs9 at*;go_loopw [1] (fun bv wr=> WrRel B db hb c7 (some ⟨g7,0,none⟩) sg (n+x.length) hs9 (x.drop k) W9 bv wr) (fun bv _=> lenOf2 bv);case atStart=> exact ⟨_,_,_,_,HSL.o,HXC9.o,HS9.o,Nat.le_refl _,rfl,rfl,HD9.o,Upd.refl _ _⟩
    case round=>
     obtain ⟨z,so',c,h,rfl,hzc,hsrc,hzy,ha,hrest,hd,hu⟩:=hrel;have HD3:=ZA hd;have HU3:=ZA hu;have HS3:=ZA hsrc;have HA3:=ZA ha;have HR3:=ZA hrest;have HX3:=ZA hx;have b0:wr.cell? ⟨db,0,none⟩=some (.pointer (some ⟨hb,0,none⟩)):=cell_of_blk hd.blk 0;have b1:wr.cell? ⟨db,1,none⟩=some (.slice (some ⟨g7,0,none⟩) 0 c7):=cell_of_blk hd.blk 1;have f1:=free_of_blk hd.blk 1;have hzi1:(z.length:Int)≤c:=by omega
     have hzx:z.length≤x.length:=Nat.le_trans hzy HYL.o;have hzi3:(z.length:Int) < 1099511627776:=by have:=HX3.o;omega
     have HZY:=ZA hzy;clear hd hu hsrc ha hrest hx hzy;by_cases hz:64≤z.length
     ·have hzi:(64:Int)≤z.length:=by omega
      have hzi2:(64:Int)≤c:=by omega
      have C:=block_any wr.drew hb sg so' c h (z.take 64) (HD3.o.ext ((Upd.refl none' wr).drew)).hblk HD3.o.len (RowB.take (RowB.of (HS3.o.ext ((Upd.refl none' wr).drew)) hz)) (HT9.o.upd (HU3.o.drew) (fun e=> by have:21=hb:=e;have:=HD3.o.lo2;omega));have HC:=ZA hzc;have HD4:=ZA (HD3.o.ext ((Upd.refl none' wr).drew));have ha2:abs h z=abs (blockP h (z.take 64)) (z.drop 64):=absorb_ge blockP hz;have hr2:restB z=restB (z.drop 64):=restB_ge hz;have HA4:=ZA ha2;have HR4:=ZA hr2;have hld:(z.drop 64).length=z.length - 64:=List.length_drop;have HLD:=ZA hld;clear ha2 hr2 hzc hld;by_cases hcap:c=64
      ·have hcc:(c:Int)=64:=by omega
       have HCAP:=ZA hcap;subst hcap;have hz64:z.length=64:=by have:=HC.o;omega
       have HZ64:=ZA hz64;have hzl:(z.length:Int)=64:=by omega
       clear hcc;go_wp2_with fail;go_still_tail 6,(by kernel_rfl);go_wp2_with fail;refine C.mono ?_;rintro e w5 ⟨rfl,hh5,u5⟩;clear hz64;go_wp2_with fail;refine ⟨⟨z.drop 64,so',0,blockP h (z.take 64),by rw[HLD.o,HZ64.o],by rw[HLD.o,HZ64.o];decide,?_,by have:=HZY.o;rw[HLD.o];omega,by rw[←HA4.o];exact HA3.o,by rw[←HR4.o];exact HR3.o,?_,HU3.o.drew.then u5 (fun _ _ h=> h)⟩,?_⟩
       ·rw[List.drop_of_length_le (by rw[HZ64.o];omega)];exact CellsAt.nil _ _
       ·exact HD4.o.setH u5 hh5 (blockP_len _ _)
       ·have:=HZ64.o;simp[lenOf2];omega
      ·have hcl:(64:Int) < c:=by have:=HC.o;omega
       have hcne:¬((c:Int) - 64=0):=by omega
       go_wp2_with fail;go_still_tail 6,(by kernel_rfl);go_wp2_with fail;refine C.mono ?_;rintro e w5 ⟨rfl,hh5,u5⟩;go_wp2_with fail;refine ⟨⟨z.drop 64,so'+64,c - 64,blockP h (z.take 64),by rw[HLD.o],by rw[HLD.o];have:=HC.o;omega,?_,by have:=HZY.o;rw[HLD.o];omega,by rw[←HA4.o];exact HA3.o,by rw[←HR4.o];exact HR3.o,?_,HU3.o.drew.then u5 (fun _ _ h=> h)⟩,?_⟩
       ·have h2:=(HS3.o.ext ((Upd.refl none' wr).drew)).drop 64;rw[←List.map_drop] at h2;refine h2.upd u5 (fun ad e=> ?_);cases e
        exact fun e=> HSEP.o (.inr (.inl e))
       ·exact HD4.o.setH u5 hh5 (blockP_len _ _)
       ·simp[lenOf2];omega
     ·have hzl:¬(64:Int)≤z.length:=by omega
      have HAE:=ZA (show abs h z=h from absorb_lt blockP (by omega));have HRE:=ZA (show restB z=z from restB_small (by omega));have HRW:=ZA (show wr.ownsRow B 5 1 (.slice (some ⟨g7,0,none⟩) 0 c7) 0 [] from HD3.o.row);have HLN:=ZA (show (z.map u8v).length=z.length*1 by simp);have HM:=ZA (show 0+z.length≤maxLen∧(0+z.length)*1≤140737488355328 by unfold maxLen;omega);have HBW:=ZA (show B≤wr.heap.size from Nat.le_trans HD3.o.lo1 (Nat.le_of_lt (lt_of_blk HD3.o.blk)));have H1:=ZA (u8_ones z);go_wp2_with (at_builtin;refine wpList_appX rfl _ _ 50 rfl B 5 i0 _ 1 1 Tryz.underlying50 hi0 hz0 hz1 hz2 rfl (by decide) (.slice (some ⟨g7,0,none⟩) 0 c7) 0 [] rfl HRW.o (some ⟨sg,so',none⟩) z.length c (z.map u8v) rfl HLN.o HS3.o H1.o HM.o.1 HM.o.2 HBW.o ?_;intro A' c' w6 hown hgrow hat;simp only[Nat.zero_add,List.nil_append] at hown hat;have U6:=ZA ((Upd.refl (fun g=> (Value.slice (some ⟨g7,0,none⟩) 0 c7).ownBlock=some g) wr).grown hgrow (fun k hk=> .inr hk));have HB6:=ZA (U6.o.blk HD3.o.blk (fun e=> rowNe HD3.o.row HD3.o.blk (by decide) db e rfl));have b1:=cell_of_blk HB6.o 1;have f1:=free_of_blk HB6.o 1;have HOWN:=ZA hown;have HAT:=ZA hat;clear hown hat hgrow);go_end0;have e1:abs hs (r++x)=h:=HWAY1.o.trans (HA3.o.symm.trans HAE.o);have e2:restB (r++x)=z:=HWAY2.o.trans (HR3.o.symm.trans HRE.o);rw[e1,e2];have U0:Upd (fpG db hb (.slice RA r.length rc)) w wr:=HU9.o.then HU3.o (fun _ _ e=> .inr (.inl e));refine ⟨rfl,.slice A' z.length c',?_,fun g hg=> ?_,?_⟩
      ·exact HD3.o.setR U6.o (fun e=> rowNe HD3.o.row HD3.o.blk (by decide) db e rfl) (fun e=> rowNe HD3.o.row HD3.o.hblk (by decide) hb e rfl) HOWN.o
      ·rcases HAT.o with h1 | h1
       ·rw[h1] at hg;cases hg;exact HG2.o.symm
       ·right;rw[h1] at hg;cases hg;exact U0.size
      ·exact (U0.then U6.o (fun b hb e=> by have e2:g7=b:=(by simpa[Value.ownBlock] using e);subst e2;exact HG2.o.elim (fun h=> absurd hb (Nat.not_lt.2 h)) (fun h=> .inr (.inr h)))).setCell (p:=⟨db,1,none⟩) (.inr (.inl rfl)) _
theorem new_any(w:World):Calls Tryz.prog 229 #[] w fun e w'=> e= .returned (.pointer (some ⟨w.heap.size+1,0,none⟩))∧DigS w.heap.size w' (w.heap.size+1) w.heap.size (.slice none 0 0) 0 shaStart []∧Ext w w':=by have h1:=blk_alloc w (.cells (u32C shaStart).toArray 405);have h2:=blk_alloc_lt h1 (.cells #[.pointer (some ⟨w.heap.size,0,none⟩),.slice none 0 0,.int .u64 0] 407);have h3:=blk_alloc (w.alloc (.cells (u32C shaStart).toArray 405)) (.cells #[.pointer (some ⟨w.heap.size,0,none⟩),.slice none 0 0,.int .u64 0] 407);rw[World.size_alloc] at h3;have X:=ZA (((Upd.refl none' w).alloc (.cells (u32C shaStart).toArray 405)).alloc (.cells #[.pointer (some ⟨w.heap.size,0,none⟩),.slice none 0 0,.int .u64 0] 407));have H2:=ZA h2;have H3:=ZA h3;clear h1 h2 h3;go_enter Tryz.func229,Tryz.ntmps229;go_wp2_with fail;go_ret;exact ⟨rfl,⟨H3.o,H2.o,World.ownsRow_nil _ _ _ _,rfl,by omega,Nat.le_refl _⟩,X.o⟩
theorem CellsAt.own{w:World}{e:Nat}{A:Option Addr}{c:Nat}{xs:List Value}(h:w.ownsRow B e 1 (.slice A n c) n xs):CellsAt w A xs:=by
 rcases own_form h with ⟨hv,h0⟩ | ⟨g,cap,hv,_⟩
 ·have:xs= []:=List.length_eq_zero_iff.1 (by have:=h.1;omega);subst this;exact CellsAt.nil _ _
 ·simp only[Value.slice.injEq,true_and] at hv;obtain ⟨rfl,rfl⟩:=hv;exact CellsAt.row h
theorem copy_any{w:World}{hs:List Int}{r:List UInt8}(D:DigS B w db hb rv n hs r)(hr:r.length < 64):
 Calls Tryz.prog 274 #[.pointer (some ⟨db,0,none⟩)] w fun e w'=> ∃db2 hb2 rv2,e= .returned (.pointer (some ⟨db2,0,none⟩))∧DigS w.heap.size w' db2 hb2 rv2 n hs r∧Ext w w':=by
 obtain ⟨i0,hi0,hz0,hz1,hz2⟩:=info_parts info_u8;obtain ⟨RA,rc,rfl⟩:=own_sl D.row;have HD:=ZA D;have b0:w.cell? ⟨db,0,none⟩=some (.pointer (some ⟨hb,0,none⟩)):=cell_of_blk D.blk 0;have b1:w.cell? ⟨db,1,none⟩=some (.slice RA r.length rc):=cell_of_blk D.blk 1;have b2:w.cell? ⟨db,2,none⟩=some (.int .u64 (n:Int)):=cell_of_blk D.blk 2;obtain ⟨h0,h1,h2,h3,h4,h5,h6,h7,rfl⟩:∃h0 h1 h2 h3 h4 h5 h6 h7,hs= [h0,h1,h2,h3,h4,h5,h6,h7]:=by
  have:=D.len;match hs,this with
  | [a,b,c,d,e,f,g,h],_=> exact ⟨a,b,c,d,e,f,g,h,rfl⟩
 have c0:=u32_cell D.hblk 0 (by simp);have c1:=u32_cell D.hblk 1 (by simp);have c2:=u32_cell D.hblk 2 (by simp);have c3:=u32_cell D.hblk 3 (by simp);have c4:=u32_cell D.hblk 4 (by simp);have c5:=u32_cell D.hblk 5 (by simp);have c6:=u32_cell D.hblk 6 (by simp);have c7:=u32_cell D.hblk 7 (by simp);simp only[List.getD_cons_zero,List.getD_cons_succ] at c0 c1 c2 c3 c4 c5 c6 c7;clear D;have HSRC:=ZA (CellsAt.own HD.o.row);have H1:=ZA (u8_ones r);have HLN:=ZA (show (r.map u8v).length=r.length*1 by simp);have HM:=ZA (show 0+r.length≤maxLen∧(0+r.length)*1≤140737488355328 by unfold maxLen;omega);have hlt:=lt_of_blk HD.o.blk;have hlt2:=lt_of_blk HD.o.hblk;go_enter Tryz.func274,Tryz.ntmps274;go_wp2_with fail;have HB4:=ZA (blk_alloc w (.cells #[.int .u32 h0,.int .u32 h1,.int .u32 h2,.int .u32 h3,.int .u32 h4,.int .u32 h5,.int .u32 h6,.int .u32 h7] 405));have HX:=ZA ((Upd.refl none' w).alloc (.cells #[.int .u32 h0,.int .u32 h1,.int .u32 h2,.int .u32 h3,.int .u32 h4,.int .u32 h5,.int .u32 h6,.int .u32 h7] 405));generalize w.alloc (.cells #[.int .u32 h0,.int .u32 h1,.int .u32 h2,.int .u32 h3,.int .u32 h4,.int .u32 h5,.int .u32 h6,.int .u32 h7] 405)=W at*;have b1:W.cell? ⟨db,1,none⟩=some (.slice RA r.length rc):=Ext.cellv HX.o b1;have b2:W.cell? ⟨db,2,none⟩=some (.int .u64 (n:Int)):=Ext.cellv HX.o b2;have HSRC:=ZA (HSRC.o.ext (HX.o.drew));have HBW:=ZA (show w.heap.size≤W.drew.heap.size from HX.o.size);have HQ:=ZA (fun (w1:World) (e1:Ext W.drew w1)=> show w1.cell? ⟨db,2,none⟩=some (.int .u64 (n:Int)) from Ext.cellv e1 b2);go_region_law (refine step_appX (by rfl) _ _ 50 (by rfl) w.heap.size 5 i0 _ 1 1 Tryz.underlying50 hi0 hz0 hz1 hz2 rfl (by decide) (.slice none 0 0) 0 [] (by rfl) (World.ownsRow_nil _ _ _ _) RA r.length rc (r.map u8v) (by rfl) HLN.o HSRC.o H1.o HM.o.1 HM.o.2 HBW.o ?_;intro A' c' w1 hown hgrow hat;have e1:=(Upd.refl none' W.drew).grown hgrow (fun k hk=> by cases hk);have x0:=HQ.o w1 e1);all_goals
  simp only[Nat.zero_add,List.nil_append] at hown;have hq:=blk_alloc w1 (.cells #[.pointer (some ⟨w.heap.size,0,none⟩),.slice A' r.length c',.int .u64 (n:Int)] 407);have X1:=(Upd.refl none' w1).alloc (.cells #[.pointer (some ⟨w.heap.size,0,none⟩),.slice A' r.length c',.int .u64 (n:Int)] 407);have hh:=Ext.blk X1 (Ext.blk e1 (Ext.blk ((Upd.refl none' W).drew) HB4.o));have ho:=ownsRow_upd hown X1 (fun _ _=> id);have hsz:=Nat.le_trans HX.o.size e1.size;have HFIN:=ZA (show DigS w.heap.size _ w1.heap.size w.heap.size (.slice A' r.length c') n [h0,h1,h2,h3,h4,h5,h6,h7] r from ⟨hq,hh,ho,rfl,hsz,Nat.le_refl _⟩);have HX2:=ZA ((HX.o.drew.trans e1).trans X1);clear hq hh ho hsz X1 e1 x0 hown hgrow hat;go_wp2_with fail;go_ret;exact ⟨_,_,_,rfl,HFIN.o,HX2.o⟩
theorem DigS.lt{w:World}{hs:List Int}{r:List UInt8}(h:DigS B w db hb rv n hs r):∀g,fpG db hb rv g→g < w.heap.size:=fun g hg=> by
 rcases hg with rfl | rfl | e
 ·exact lt_of_blk h.blk
 ·exact lt_of_blk h.hblk
 ·exact (h.row.lt g e).2
theorem DigS.weaken{B':Nat}{w:World}{hs:List Int}{r:List UInt8}(h:DigS B w db hb rv n hs r)(hB:B'≤B):DigS B' w db hb rv n hs r:=
 ⟨h.blk,h.hblk,ownLow h.row hB,h.len,Nat.le_trans hB h.lo1,Nat.le_trans hB h.lo2⟩
theorem CellsAt.new(w:World)(cs:List Value)(t:TypeId):CellsAt (w.alloc (.cells cs.toArray t)) (some ⟨w.heap.size,0,none⟩) cs:=fun j v hv=> ⟨_,rfl,by rw[Addr.add_lit,cell_of_blk (blk_alloc w _)];simpa using hv⟩
def byteI(y:Int):UInt8:=UInt8.ofNat (y % 256).toNat
theorem u8v_byteI(y:Int):u8v (byteI y)= .int .u8 (y % 256):=by
 unfold byteI;have h1:=Int.emod_nonneg y (b:=256) (by decide);have h2:=Int.emod_lt_of_pos y (b:=256) (by decide);have:(UInt8.ofNat (y % 256).toNat).toNat=(y % 256).toNat:=by rw[UInt8.toNat_ofNat'];omega
 simp only[u8v,this];congr 1;omega
def outI(hs:List Int)(i:Nat):UInt8:=byteI (hs.getD (i / 4) 0 / 2 ^ (24 - i % 4*8))
def outC(hs:List Int)(m:Nat):List UInt8:=(List.range 32).map (fun i=> if i < m then outI hs i else 0)
def outB(hs:List Int):List UInt8:=outC hs 32
def lenB(n:Nat):List UInt8:=(List.range 8).map (fun m=> byteI ((n*8:Nat) / 2 ^ (56 - 8*m)))
def finB(r n:Nat):List UInt8:=128::(List.replicate ((119 - r) % 64) 0++lenB n)
theorem outC_len(hs:List Int)(m:Nat):(outC hs m).length=32:=by simp[outC]
theorem outC_set(hs:List Int)(m:Nat)(hm:m < 32)(v:Value)(hv:u8v (outI hs m)=v):((outC hs m).map u8v).toArray.setIfInBounds m v=((outC hs (m+1)).map u8v).toArray:=by
 subst hv;rw[List.setIfInBounds_toArray];congr 1;rw[←List.map_set];congr 1;apply List.ext_getElem?;intro i;rw[List.getElem?_set,outC_len];by_cases hi:i < 32
 ·by_cases hki:m=i
  ·subst hki;simp[outC,hi]
  ·rw[if_neg hki];have:(i < m+1)=(i < m):=by simp;omega
   simp[outC,hi,this]
 ·rw[if_neg (by omega),List.getElem?_eq_none (by rw[outC_len];omega),List.getElem?_eq_none (by rw[outC_len];omega)]
theorem lenB_len(n:Nat):(lenB n).length=8:=by simp[lenB]
def ZrRel(B:Nat)(z:Nat)(w:World)(v:Value)(wr:World):Prop:=
 ∃j:Nat,j≤z∧wr.ownsRow B 5 1 v (1+j) ((128::List.replicate j 0).map u8v)∧Ext w wr
def LnRel(B:Nat)(n z:Nat)(w:World)(v iv:Value)(wr:World):Prop:=
 ∃(m:Nat) (i:Int),m≤8∧i=56 - 8*(m:Int)∧iv= .int .i64 i∧wr.ownsRow B 5 1 v (1+z+m) ((128::(List.replicate z 0++(lenB n).take m)).map u8v)∧Ext w wr
def OutRel(g:Nat)(hs:List Int)(w:World)(iv:Value)(wr:World):Prop:=
 ∃k:Nat,k≤8∧iv= .int .i64 k∧wr.heap[g]? =some (.cells ((outC hs (4*k)).map u8v).toArray 33 (0,0))∧Upd (one g) w wr
theorem dsum_any{w:World}{hs:List Int}{r:List UInt8}(D:DigS B w db hb rv n hs r)(hr:r.length < 64)(hB:B≤w.heap.size)(hG:21 < B)(htab:ShaTab w)(hn:n < 144115188075855872):
 Calls Tryz.prog 231 #[.pointer (some ⟨db,0,none⟩)] w fun e w'=> e= .returned (.agg ((outB (abs hs (r++finB r.length n))).map u8v).toArray)∧Ext w w':=by
 obtain ⟨i0,hi0,hz0,hz1,hz2⟩:=info_parts info_u8;obtain ⟨RA,rc,rfl⟩:=own_sl D.row;have X0:=(Upd.refl none' w).alloc (.cells (List.replicate 32 (Value.int .u8 0)).toArray 33);have C:=copy_any (D.ext X0) hr;have HD:=ZA D;have HX0:=ZA X0;have HQ0:=ZA (blk_alloc w (.cells (List.replicate 32 (Value.int .u8 0)).toArray 33));have HT:=ZA (htab.ext X0);have HB:=ZA hB;have b0:w.cell? ⟨db,0,none⟩=some (.pointer (some ⟨hb,0,none⟩)):=cell_of_blk D.blk 0;have hlt:=lt_of_blk HD.o.blk;clear D X0 htab hB;go_enter Tryz.func231,Tryz.ntmps231;go_wp2_with fail;refine C.mono ?_;rintro e w2 ⟨db2,hb2,rv2,rfl,hd2,hx2⟩;have HX2:=ZA (HX0.o.trans hx2);have HD2:=ZA (hd2.weaken (B':=w.heap.size) HX0.o.size);have HT2:=ZA (HT.o.ext hx2);have HLOW:=ZA (fun g h=> (by have:=hd2.low g h;rw[World.size_alloc] at this;exact this:w.heap.size+1≤g));have HD1:=ZA ((HD.o.ext HX0.o).ext hx2);have HQ2:=ZA (Ext.blk hx2 HQ0.o);have b2:w2.cell? ⟨db,2,none⟩=some (.int .u64 (n:Int)):=cell_of_blk HD1.o.blk 2;have hn8:(n:Int)*8 < 1152921504606846976:=by omega
 have HRR:=ZA hr;have HNN:=ZA hn;clear C hd2 hx2 HQ0 b0;generalize hgQ:w.heap.size=qb at*;have HQB:=ZA hgQ;clear hgQ;go_wp2_with fail;go_loopw [5] (fun v wr=> ZrRel w2.heap.size ((119 - r.length) % 64) w2 v wr) (fun v _=> 80 - lenOf2 v);case atStart=> exact ⟨0,Nat.zero_le _,⟨rfl,.inr ⟨w2.heap.size,1,_,rfl,Nat.le_refl _,blk_alloc w2 _,Nat.le_refl _,by unfold maxLen;omega,rfl,rfl⟩⟩,(Upd.refl none' w2).alloc _⟩
 case round=>
  obtain ⟨j,hj,ho,hx⟩:=hrel;have HX:=ZA hx;have HO:=ZA ho;have b1:wr.cell? ⟨db,1,none⟩=some (.slice RA r.length rc):=Ext.cellv hx (cell_of_blk HD1.o.blk 1);rcases own_form ho with ⟨_,h0⟩ | ⟨g,c,rfl,hgb⟩
  ·omega
  have hr2:r.length < 64:=HRR.o;have HGB:=ZA hgb;clear ho hx hgb;generalize hm:1+j=m at*;have HM:=ZA hm;have hm1:(m:Int)≤65:=by omega
  have hm0:(0:Int) < m:=by omega
  by_cases hlt:j < (119 - r.length) % 64
  ·have ht:(((r.length:Int)+m) % 64 !=56)=true:=by simp;omega
   have HOa:=ZA (ownsRow_upd HO.o ((Upd.refl none' wr).alloc (.cells #[.int .u8 0] 5)) (fun _ _=> id));have HBa:=ZA (show w2.heap.size≤(wr.alloc (.cells #[.int .u8 0] 5)).heap.size from Nat.le_trans HX.o.size ((Upd.refl none' wr).alloc _).size);have HL:=ZA (show m+1≤maxLen∧(m+1)*1≤140737488355328 by unfold maxLen;omega);have HLT:=ZA hlt;clear hm hlt hj;go_wp2_with (at_builtin;refine wpList_appX rfl _ _ 50 rfl w2.heap.size 5 i0 _ 1 1 Tryz.underlying50 hi0 hz0 hz1 hz2 rfl (by decide) _ m _ rfl HOa.o (some ⟨wr.heap.size,0,none⟩) 1 1 [.int .u8 0] rfl rfl (CellsAt.new wr _ _) (by intro u hu;simp at hu;subst hu;rfl) HL.o.1 HL.o.2 HBa.o ?_;intro A' c' w5 hown hgrow hat;have HOWN:=ZA hown;have HU5:=ZA ((HX.o.alloc (.cells #[.int .u8 0] 5)).grown hgrow (fun k hk=> .inl (HOa.o.lt k hk).1));clear hown hgrow hat);refine ⟨⟨j+1,by have:=HLT.o;omega,?_,HU5.o⟩,by simp[lenOf2];omega⟩;have h:=HOWN.o;have e:(128::List.replicate (j+1) (0:UInt8)).map u8v=(128::List.replicate j (0:UInt8)).map u8v++ [.int .u8 0]:=by rw[List.replicate_succ',List.map_cons,List.map_append,List.map_cons];rfl
   rw[e,show 1+(j+1)=m+1 by have:=HM.o;omega];exact h
  ·have HJ:=ZA (show j=(119 - r.length) % 64 by omega);have ht:(((r.length:Int)+m) % 64 !=56)=false:=by simp;omega
   clear hm hlt hj;go_wp2_with fail;have HO2:=ZA (show wr.ownsRow w2.heap.size 5 1 (.slice (some ⟨g,0,none⟩) m c) (1+(119 - r.length) % 64+0) ((128::(List.replicate ((119 - r.length) % 64) 0++(lenB n).take 0)).map u8v) from by have h:=HO.o;rw[←HJ.o,HM.o];simpa using h)
   obtain ⟨w3,hw3⟩:∃w3:World,w3=wr:=⟨_,rfl⟩;subst hw3;have HZ:=ZA (show (119 - r.length) % 64 < 64 from Nat.mod_lt _ (by decide));have HZE:=ZA (show finB r.length n=128::(List.replicate ((119 - r.length) % 64) 0++lenB n) from rfl);generalize (119 - r.length) % 64=z at*;go_loopw [5,6] (fun v iv wr=> LnRel w2.heap.size n z w2 v iv wr) (fun _ iv _=> (RowKit.intOf iv+8).toNat);case atStart=> exact ⟨0,56,by omega,by omega,rfl,HO2.o,HX.o⟩
   case round=>
    obtain ⟨p,i,hp,hi,rfl,ho,hx⟩:=hrel;have HI:=ZA hi;have HX:=ZA hx;have HO:=ZA ho;rcases own_form ho with ⟨_,h0⟩ | ⟨g,c,rfl,hgb⟩
    ·omega
    have HGB:=ZA hgb;clear ho hx hgb;generalize hm:1+z+p=m at*;have HM:=ZA hm;have HNN2:=HNN.o;have hzz:=HZ.o;by_cases hlt:p < 8
    ·have hpi:(0:Int)≤i:=by omega
     have hpj:i≤56:=by omega
     have HPT:=ZA (show i.toNat=56 - 8*p by omega);have HP:=ZA hp;have hlt2:=hlt;have hval:u8v (byteI ((n*8:Nat) / 2 ^ (56 - 8*p)))= .int .u8 ((n:Int)*8 / 2 ^ i.toNat % 256):=by rw[u8v_byteI,HPT.o];simp
     have HV:=ZA hval;have hgl:(lenB n).take (p+1)=(lenB n).take p++ [byteI ((n*8:Nat) / 2 ^ (56 - 8*p))]:=by rw[List.take_succ_eq_append_getElem (by rw[lenB_len];exact hlt)];simp[lenB]
     have HGL:=ZA hgl;clear hval hgl hm hi hp hlt hlt2;have HOa:=ZA (ownsRow_upd HO.o ((Upd.refl none' wr).alloc (.cells #[.int .u8 ((n:Int)*8 / 2 ^ i.toNat % 256)] 5)) (fun _ _=> id));have HBa:=ZA (show w2.heap.size≤(wr.alloc (.cells #[.int .u8 ((n:Int)*8 / 2 ^ i.toNat % 256)] 5)).heap.size from Nat.le_trans HX.o.size ((Upd.refl none' wr).alloc _).size);have HL:=ZA (show m+1≤maxLen∧(m+1)*1≤140737488355328 by have:=HM.o;have:=HP.o;unfold maxLen;omega);go_wp2_with (at_builtin;refine wpList_appX rfl _ _ 50 rfl w2.heap.size 5 i0 _ 1 1 Tryz.underlying50 hi0 hz0 hz1 hz2 rfl (by decide) _ m _ rfl HOa.o (some ⟨wr.heap.size,0,none⟩) 1 1 [.int .u8 ((n:Int)*8 / 2 ^ i.toNat % 256)] rfl rfl (CellsAt.new wr _ _) (by intro u hu;simp at hu;subst hu;rfl) HL.o.1 HL.o.2 HBa.o ?_;intro A' c' w5 hown hgrow hat;have HOWN:=ZA hown;have HU5:=ZA ((HX.o.alloc (.cells #[.int .u8 ((n:Int)*8 / 2 ^ i.toNat % 256)] 5)).grown hgrow (fun k hk=> .inl (HOa.o.lt k hk).1));clear hown hgrow hat);go_roundw;case rel=>
      refine ⟨p+1,_,by have:=HI.o;omega,by have:=HI.o;omega,rfl,?_,HU5.o⟩;have h:=HOWN.o;rw[←List.singleton_append,←HV.o] at h;rw[HGL.o,←List.append_assoc,←List.cons_append,List.map_append,show 1+z+(p+1)=m+1 by have:=HM.o;omega];simpa using h
     case measure=> simp[RowKit.intOf];omega
    ·have HP:=ZA (show p=8 by omega);have hpi:¬((0:Int)≤i):=by omega
     clear hlt hp hm hi;have hx1:=HX.o;have HDr:=ZA (HD2.o.ext hx1);have hsrc:CellsAt wr (some ⟨g,0,none⟩) ((finB r.length n).map u8v):=by have h:=CellsAt.row HO.o;rw[HP.o,List.take_of_length_le (by rw[lenB_len];exact Nat.le_refl _)] at h;rw[HZE.o];exact h
     have hfl:(finB r.length n).length=m:=by rw[HZE.o];have:=HM.o;have:=HP.o;simp[lenB_len];omega
     have hgb2:=HGB.o;have C:=write_any HDr.o HRR.o (by have:=HQB.o;have:=HX2.o.size;have:=hx1.size;omega) (by have:=HD.o.lo1;have:=HB.o;have:=HQB.o;omega) (HT2.o.ext hx1) g 0 (finB r.length n) c (by rw[hfl];exact own_cap HO.o) hsrc (fun e=> by have:=HD2.o.lt g e;omega) (by rw[hfl];have:=HM.o;have:=HNN.o;have:=HP.o;have:=HZ.o;omega) (by rw[hfl];have:=HM.o;have:=HP.o;have:=HZ.o;omega);have HFL:=ZA hfl;have HX3:=ZA (HX2.o.trans hx1);have HQ3:=ZA (Ext.blk hx1 HQ2.o);have HLT3:=ZA (fun g h=> Nat.lt_of_lt_of_le (HD2.o.lt g h) hx1.size);have HLO3:=ZA (HD2.o.low);rw[hfl] at C;clear hfl hsrc hgb2 hx1;go_wp2_with fail;refine C.mono ?_;rintro e w6 ⟨rfl,rv6,hd6,_,u6⟩;have HD6:=ZA hd6;have HX6:=ZA (show Ext w w6 from HX3.o.then u6 (fun b hb2 e=> by have:=HLO3.o b e;have:=HQB.o;omega));have hnq:¬fpG db2 hb2 rv2 qb:=fun e=> by have:=HLOW.o qb e;omega
     have HQ6:=ZA (u6.blk HQ3.o hnq);have b06:w6.cell? ⟨db2,0,none⟩=some (.pointer (some ⟨hb2,0,none⟩)):=cell_of_blk hd6.blk 0;have hlt6:=lt_of_blk hd6.blk;have hlt7:=lt_of_blk hd6.hblk;clear hd6 u6 hnq C;go_wp2_with fail;have HLEN8:=ZA HD6.o.len;have HQ7:=ZA (show (w6.alloc (.cells zero32 33)).heap[w6.heap.size]? =some (.cells ((outC (abs hs (r++finB r.length n)) (4*0)).map u8v).toArray 33 (0,0)) from blk_alloc w6 _);have HX7:=ZA (show Ext w6 (w6.alloc (.cells zero32 33)) from (Upd.refl none' w6).alloc _);have HH7:=ZA (Ext.blk HX7.o HD6.o.hblk);have HO7:=ZA (Ext.blk HX7.o HQ6.o);have HX0':=ZA (HX6.o.trans HX7.o);have HNE:=ZA (show hb2≠w6.heap.size from by omega);have HNE2:=ZA (show qb≠w6.heap.size from by have:=lt_of_blk HQ6.o;omega);generalize habs:abs hs (r++finB r.length n)=hs6 at*;have HABS:=ZA habs;clear habs;generalize w6.alloc (.cells zero32 33)=w7 at*;generalize hq6:w6.heap.size=q at*;have HQQ:=ZA (show w.heap.size≤q by have:=HX6.o.size;omega);clear hq6;go_loopw [59] (fun iv wr=> OutRel q hs6 w7 iv wr) (fun iv _=> 8 - (RowKit.intOf iv).toNat);case atStart=> exact ⟨0,by omega,rfl,HQ7.o,Upd.refl _ _⟩
     case round=>
      obtain ⟨k,hk,rfl,hq,hu⟩:=hrel;have HQ:=ZA hq;have HU:=ZA hu;have HW:=ZA (hu.blk HH7.o HNE.o);clear hq hu;by_cases hlt:k < 8
      ·have hki:(k:Int) < 8:=by omega
       have ck:=u32_cell HW.o k (by rw[HLEN8.o];exact hlt);have m0:IntKind.i64.wrap (4*(k:Int))=4*k:=by simp[IntKind.wrap,IntKind.bits,IntKind.signed];omega
       have m1:IntKind.i64.wrap (4*(k:Int)+1)=4*k+1:=by simp[IntKind.wrap,IntKind.bits,IntKind.signed];omega
       have m2:IntKind.i64.wrap (4*(k:Int)+2)=4*k+2:=by simp[IntKind.wrap,IntKind.bits,IntKind.signed];omega
       have m3:IntKind.i64.wrap (4*(k:Int)+3)=4*k+3:=by simp[IntKind.wrap,IntKind.bits,IntKind.signed];omega
       have z0:0≤4*(k:Int):=by omega
       have z1:0≤4*(k:Int)+1:=by omega
       have z2:0≤4*(k:Int)+2:=by omega
       have z3:0≤4*(k:Int)+3:=by omega
       have t0:(4*(k:Int)).toNat=4*k:=by omega
       have t1:(4*(k:Int)+1).toNat=4*k+1:=by omega
       have t2:(4*(k:Int)+2).toNat=4*k+2:=by omega
       have t3:(4*(k:Int)+3).toNat=4*k+3:=by omega
       have i0':(4*(k:Int)) < 32:=by omega
       have i1:(4*(k:Int))+1 < 32:=by omega
       have i2:(4*(k:Int))+2 < 32:=by omega
       have i3:(4*(k:Int))+3 < 32:=by omega
       have cell:∀j,j < 32→∃v,wr.cell? ⟨q,j,none⟩=some v:=fun j hj=> by rw[cell_of_blk HQ.o];exact ⟨_,Array.getElem?_eq_getElem (by simp[outC_len];exact hj)⟩
       obtain ⟨v0,d0⟩:=cell (4*k) (by omega);obtain ⟨v1,d1⟩:=cell (4*k+1) (by omega);obtain ⟨v2,d2⟩:=cell (4*k+2) (by omega);obtain ⟨v3,d3⟩:=cell (4*k+3) (by omega);have g0:=free_of_blk HQ.o (4*k);have g1:=free_of_blk HQ.o (4*k+1);have g2:=free_of_blk HQ.o (4*k+2);have g3:=free_of_blk HQ.o (4*k+3);have o0:=outC_set hs6 (4*k) (by omega) (.int .u8 (hs6.getD k 0 / 16777216 % 256)) (by rw[outI,u8v_byteI,show 4*k / 4=k by omega,show 24 - 4*k % 4*8=24 by omega];rfl);have o1:=outC_set hs6 (4*k+1) (by omega) (.int .u8 (hs6.getD k 0 / 65536 % 256)) (by rw[outI,u8v_byteI,show (4*k+1) / 4=k by omega,show 24 - (4*k+1) % 4*8=16 by omega];rfl);have o2:=outC_set hs6 (4*k+2) (by omega) (.int .u8 (hs6.getD k 0 / 256 % 256)) (by rw[outI,u8v_byteI,show (4*k+2) / 4=k by omega,show 24 - (4*k+2) % 4*8=8 by omega];rfl);have o3:=outC_set hs6 (4*k+3) (by omega) (.int .u8 (hs6.getD k 0 % 256)) (by rw[outI,u8v_byteI,show (4*k+3) / 4=k by omega,show 24 - (4*k+3) % 4*8=0 by omega];simp);have q0:=blk_set HQ.o (4*k) (.int .u8 (hs6.getD k 0 / 16777216 % 256));rw[o0] at q0;have q1:=blk_set q0 (4*k+1) (.int .u8 (hs6.getD k 0 / 65536 % 256));rw[o1] at q1;have q2:=blk_set q1 (4*k+2) (.int .u8 (hs6.getD k 0 / 256 % 256));rw[o2] at q2;have q3:=blk_set q2 (4*k+3) (.int .u8 (hs6.getD k 0 % 256));rw[o3] at q3;have HQ4:=ZA q3;have U4:=ZA ((((HU.o.setCell (p:=⟨q,4*k,none⟩) (.inr rfl) (.int .u8 (hs6.getD k 0 / 16777216 % 256))).setCell (p:=⟨q,4*k+1,none⟩) (.inr rfl) (.int .u8 (hs6.getD k 0 / 65536 % 256))).setCell (p:=⟨q,4*k+2,none⟩) (.inr rfl) (.int .u8 (hs6.getD k 0 / 256 % 256))).setCell (p:=⟨q,4*k+3,none⟩) (.inr rfl) (.int .u8 (hs6.getD k 0 % 256)));clear o0 o1 o2 o3 q0 q1 q2 q3 cell;generalize hs6.getD k 0=x at*;go_wp2_with fail;go_quiet (fail);go_wp2_with fail;go_roundw;case rel=>
        refine ⟨k+1,by omega,by simp,?_,((((HU.o.drewN _).setCell (p:=⟨q,4*k,none⟩) (.inr rfl) _).setCell (p:=⟨q,4*k+1,none⟩) (.inr rfl) _).setCell (p:=⟨q,4*k+2,none⟩) (.inr rfl) _).setCell (p:=⟨q,4*k+3,none⟩) (.inr rfl) _⟩;have h:=HQ4.o;rw[show 4*k+3+1=4*(k+1) by omega] at h;exact h
       case measure=> simp[RowKit.intOf];omega
      ·have HK:=ZA (show k=8 by omega);have hki:¬(k:Int) < 8:=by omega
       have HL:=ZA (hash_size32 (outC hs6 (4*k)) (outC_len _ _));have HC:=ZA (blk_cells HQ.o);have HQB2:=ZA (HU.o.blk HO7.o HNE2.o);have H32:=ZA (u8_ones (outC hs6 (4*k)));have HLL:=ZA (show (List.replicate 32 (Value.int .u8 0)).length=((outC hs6 (4*k)).map u8v).length by simp[outC_len]);go_wp2_with (first
        | (refine wpList_loadAgg rfl 33 _ rfl q 0 rfl ((outC hs6 (4*k)).map u8v) Tryz.underlying33 rfl HL.o HC.o ?_)
        | (refine store_whole rfl 33 _ _ rfl qb rfl ((outC hs6 (4*k)).map u8v) rfl HL.o _ _ HQB2.o HLL.o H32.o ?_))
       have hsz:(Tryz.prog.info? 33).map (·.size)=some ((outC hs6 (4*k)).map u8v).toArray.size:=by rw[HL.o];simp
       refine bodyPost_ret (v:= .agg ((outC hs6 (4*k)).map u8v).toArray) (results_cell_row rfl _ _ qb 33 _ (0,0) _ rfl (blk_setRow HQB2.o _) Tryz.underlying33 rfl hsz) rfl ⟨by rw[HK.o,HABS.o];rfl,?_⟩;exact Upd.setRow (HX0'.o.then HU.o (fun b hb3 e=> by have:b=q:=e;have:=HQQ.o;omega)) (.inl (by rw[HQB.o];exact Nat.le_refl _)) _
def shaB(bs:List UInt8):List UInt8:=outB (abs shaStart (bs++finB (bs.length % 64) bs.length))
theorem shaB_len(bs:List UInt8):(shaB bs).length=32:=outC_len _ _
def flatS(ps:List ByteArray):List UInt8:=(ps.map fun p=> p.data.toList).flatten
theorem flatS_snoc(ps:List ByteArray)(p:ByteArray):flatS (ps++ [p])=flatS ps++p.data.toList:=by simp[flatS]
theorem bytesWorld_ext(w:World)(e:TypeId)(s:ByteArray):Ext w (bytesWorld w e s):=
 ⟨rfl,rfl,rfl,by rw[bytesWorld_size];omega,fun k hk _=> bytesWorld_at_old w e s k hk⟩
theorem bytesWorld_cells(w:World)(e:TypeId)(s:ByteArray):CellsAt (bytesWorld w e s) (some ⟨w.heap.size,0,none⟩) (s.data.toList.map u8v):=fun j v hv=> by
 refine ⟨_,rfl,?_⟩;rw[List.getElem?_map] at hv;cases hx:s.data.toList[j]? with
 | none=> rw[hx] at hv;cases hv
 | some b=>
  rw[hx] at hv;cases hv
  have hj:j < s.size:=by have:=(List.getElem?_eq_some_iff.1 hx).1;rw[Array.length_toList] at this;exact this
  rw[Addr.add_lit,Nat.zero_add,bytesWorld_cell w e s j hj,List.getD_eq_getElem?_getD,hx];rfl
theorem flatS_take_le(ps:List ByteArray)(k:Nat):(flatS (ps.take k)).length≤(flatS ps).length:=by
 have e:flatS ps=flatS (ps.take k)++flatS (ps.drop k):=by unfold flatS;rw[←List.flatten_append,←List.map_append,List.take_append_drop]
 rw[e,List.length_append];omega
def SumRel(B db hb:Nat)(ps:List ByteArray)(w:World)(iv:Value)(wr:World):Prop:=
 ∃(k:Nat) (rv:Value),k≤ps.length∧iv= .int .i64 k∧DigS B wr db hb rv (flatS (ps.take k)).length (abs shaStart (flatS (ps.take k))) (restB (flatS (ps.take k)))∧Upd (fun g=> B≤g) w wr
theorem ssum_any(w:World)(A:Option Addr)(ps:List ByteArray)(cap:Nat)(hA0:A=none∨∃g o,A=some ⟨g,o,none⟩)(hA:CellsAt w A (ps.map Value.string))(hps:(flatS ps).length < 1099511627776)(hpl:ps.length < 1099511627776)(hG:21 < w.heap.size)(htab:ShaTab w):
 Calls Tryz.prog 152 #[.slice A ps.length cap] w fun e w'=> e= .returned (hashV (shaB (flatS ps)))∧Ext w w':=by
 have X0:=(Upd.refl none' w).alloc (.cells zero32 33);have HQ0:=ZA (blk_alloc w (.cells zero32 33));have C:=new_any (w.alloc (.cells zero32 33));rw[World.size_alloc] at C;have HX0:=ZA X0;have HA:=ZA hA;have HA0:=ZA hA0;have HT:=ZA htab;have HPS:=ZA hps;have HPL:=ZA hpl;have HG:=ZA hG;clear X0 hA hA0 htab hps hG;go_enter Tryz.func152,Tryz.ntmps152;go_wp2_with fail;refine C.mono ?_;rintro e w1 ⟨rfl,hd,hx⟩;have HD1:=ZA hd;have HX1:=ZA hx;have HXW:=ZA (HX0.o.trans hx);have HQ1:=ZA (Ext.blk hx HQ0.o);have hpl2:(ps.length:Int) < 1099511627776:=by omega
 clear hd hx C HQ0;have HDS:=ZA (show DigS (w.heap.size+1) w1 (w.heap.size+1+1) (w.heap.size+1) (.slice none 0 0) (flatS (ps.take 0)).length (abs shaStart (flatS (ps.take 0))) (restB (flatS (ps.take 0))) from by have e0:flatS (ps.take 0)= []:=rfl;rw[e0,show abs shaStart []=shaStart from absorb_lt blockP (by simp)];exact HD1.o)
 generalize hq:w.heap.size=q at*;have HQE:=ZA hq;clear hq;go_wp2_with fail;go_loopw [9] (fun iv wr=> SumRel (q+1) (q+1+1) (q+1) ps w1 iv wr) (fun iv _=> ps.length - (RowKit.intOf iv).toNat);case atStart=> exact ⟨0,_,Nat.zero_le _,rfl,HDS.o,Upd.refl _ _⟩
 case round=>
  obtain ⟨k,rv,hk,rfl,hd,hx⟩:=hrel;have HD:=ZA hd;have HX:=ZA hx;clear hd hx;by_cases hlt:k < ps.length
  ·have hki:(k:Int) < ps.length:=by omega
   obtain ⟨ad,rfl,hc⟩:=HA.o k (.string ps[k]) (by rw[List.getElem?_map,List.getElem?_eq_getElem hlt];rfl);obtain ⟨gp,op,e0⟩:∃g o,ad=⟨g,o,none⟩:=by
    rcases HA0.o with h | ⟨g,o,h⟩
    ·cases h
    ·exact ⟨g,o,Option.some.inj h⟩
   subst e0;rw[Addr.add_lit] at hc;have hcw:wr.cell? ⟨gp,op+k,none⟩=some (.string ps[k]):=by have h1:=Ext.cellv HXW.o hc;rw[Upd.cell HX.o (lt_of_cell h1) (fun e=> by have:=lt_of_cell hc;have:=HQE.o;have e2:q+1≤gp:=e;have e3:gp < w.heap.size:=lt_of_cell hc;omega)];exact h1
   have HPK:=ZA (show flatS (ps.take (k+1))=flatS (ps.take k)++ps[k].data.toList by rw[List.take_succ_eq_append_getElem hlt,flatS_snoc]);generalize ps[k]=p at*;clear hc;have hcv:=fun (W:World)=> Lib.run_convert_string_bytes (P:=Tryz.prog) W 9 50 5 p Tryz.underlying9 Tryz.underlying50 Tryz.underlying5;go_wp2_with fail;have hbe:=bytesWorld_ext wr 5 p;have hle:=flatS_take_le ps (k+1);rw[HPK.o,List.length_append] at hle;have hpsz:p.data.toList.length=p.size:=Array.length_toList;have hpst:=HPS.o;have C2:=write_any (HD.o.ext hbe) (by rw[restB_len];omega) (by have:=HD.o.lo2;have:=lt_of_blk HD.o.hblk;have:=hbe.size;omega) (by have:=HG.o;omega) (((HT.o.ext HXW.o).upd HX.o (fun e=> by have:=HG.o;omega)).ext hbe) wr.heap.size 0 p.data.toList (grownCap wr p.size 0 5) (by rw[hpsz];exact grownCap_ge _ _ _ _) (bytesWorld_cells wr 5 p) (fun e=> by have:=HD.o.lt _ e;omega) (by omega) (by omega);rw[hpsz] at C2;refine C2.mono ?_;rintro e w5 ⟨rfl,rv5,hd5,_,u5⟩;rw[show abs (abs shaStart (flatS (ps.take k))) (restB (flatS (ps.take k))++p.data.toList)=abs shaStart (flatS (ps.take k)++p.data.toList) from (absorb_rest blockP _ _ _).symm,←restB_rest,←hpsz,←List.length_append,←HPK.o] at hd5;have HD5:=ZA hd5;have HX5:=ZA (show Upd (fun g=> q+1≤g) w1 w5 from (HX.o.thenExt hbe).then u5 (fun b hb e=> HD.o.low b e));clear hd5 u5 C2 hle hbe hpst hpsz;go_wp2_with fail;exact ⟨⟨k+1,rv5,by omega,by simp,HD5.o,HX5.o⟩,by simp[RowKit.intOf];omega⟩
  ·have HK:=ZA (show k=ps.length by omega);have hki:¬(k:Int) < ps.length:=by omega
   have hrl:(restB (flatS (ps.take k))).length < 64:=by rw[restB_len];omega
   have C2:=dsum_any HD.o hrl (by have:=HD.o.lo2;have:=lt_of_blk HD.o.hblk;omega) (by have:=HG.o;omega) ((HT.o.ext HXW.o).upd HX.o (fun e=> by have:=HG.o;omega)) (by have:=flatS_take_le ps k;have:=HPS.o;omega);have HE:=ZA (show outB (abs (abs shaStart (flatS (ps.take k))) (restB (flatS (ps.take k))++finB (restB (flatS (ps.take k))).length (flatS (ps.take k)).length))=shaB (flatS ps) from by rw[show∀y,abs (abs shaStart (flatS (ps.take k))) (restB (flatS (ps.take k))++y)=abs shaStart (flatS (ps.take k)++y) from fun y=> (absorb_rest blockP _ _ _).symm,restB_len,HK.o,List.take_length];rfl)
   rw[HE.o] at C2;go_wp2_with fail;refine C2.mono ?_;rintro e w5 ⟨rfl,hx5⟩;have HQ5:=ZA (Ext.blk hx5 (HX.o.blk HQ1.o (fun e=> by omega)));have HX5:=ZA ((HXW.o.then HX.o (fun b hb e=> by have:=HQE.o;have e2:q+1≤b:=e;omega)).trans hx5);have HSL:=ZA (hash_size32 (shaB (flatS ps)) (shaB_len _));have H1:=ZA (u8_ones (shaB (flatS ps)));have HLL:=ZA (show zero32.toList.length=((shaB (flatS ps)).map u8v).length by simp[shaB_len]);clear hx5 C2 hrl;go_wp2_with (refine store_whole rfl 33 _ _ rfl q rfl ((shaB (flatS ps)).map u8v) rfl HSL.o _ _ HQ5.o HLL.o H1.o ?_);have hsz:(Tryz.prog.info? 33).map (·.size)=some ((shaB (flatS ps)).map u8v).toArray.size:=by rw[HSL.o];simp
   refine bodyPost_ret (v:= .agg ((shaB (flatS ps)).map u8v).toArray) (results_cell_row rfl _ _ q 33 _ (0,0) _ rfl (blk_setRow HQ5.o _) Tryz.underlying33 rfl hsz) rfl ⟨rfl,?_⟩;exact Upd.setRow HX5.o (.inl (by rw[HQE.o];exact Nat.le_refl _)) _
def leafH(d:List UInt8):List UInt8:=shaB (0::d)
def nodeH(a b:List UInt8):List UInt8:=shaB (1::(a++b))
def emptyH:List UInt8:=shaB []
theorem leafH_len(d:List UInt8):(leafH d).length=32:=shaB_len _
theorem nodeH_len(a b:List UInt8):(nodeH a b).length=32:=shaB_len _
theorem emptyH_len:emptyH.length=32:=shaB_len _
theorem leaf_h(w:World)(s:ByteArray)(hs:s.size≤1073741824)(hG:21 < w.heap.size)(htab:ShaTab w):
 Calls Tryz.prog 54 #[.string s] w fun e w'=> e= .returned (hashV (leafH s.data.toList))∧Ext w w':=by
 have X0:=((Upd.refl none' w).alloc (.cells zero32 33)).alloc (.cells #[.string ⟨#[0]⟩,.string s] 9);have hq:=blk_alloc_lt (blk_alloc w (.cells zero32 33)) (.cells #[.string ⟨#[0]⟩,.string s] 9);have hp:=blk_alloc (w.alloc (.cells zero32 33)) (.cells #[.string ⟨#[0]⟩,.string s] 9);rw[World.size_alloc] at hp;have hfl:flatS [⟨#[0]⟩,s]=0::s.data.toList:=by simp[flatS]
 have hsz:s.data.toList.length=s.size:=Array.length_toList;have C:=ssum_any ((w.alloc (.cells zero32 33)).alloc (.cells #[.string ⟨#[0]⟩,.string s] 9)) (some ⟨w.heap.size+1,0,none⟩) [⟨#[0]⟩,s] 2 (.inr ⟨_,_,rfl⟩) (fun j v hv=> ⟨_,rfl,by rw[Addr.add_lit,cell_of_blk hp];simpa using hv⟩) (by rw[hfl,List.length_cons];omega) (by simp) (by have:=X0.size;omega) (htab.ext X0);rw[hfl] at C;have HE:=ZA (show leafH s.data.toList=shaB (0::s.data.toList) from rfl);have HX:=ZA X0;have HQ:=ZA hq;have HSL:=ZA (hash_size32 (shaB (0::s.data.toList)) (shaB_len _));have H1:=ZA (u8_ones (shaB (0::s.data.toList)));have HLL:=ZA (show zero32.toList.length=((shaB (0::s.data.toList)).map u8v).length by simp[shaB_len]);clear X0 hp hfl hsz htab hq;go_enter Tryz.func54,Tryz.ntmps54;go_wp2_with fail;refine C.mono ?_;rintro e w5 ⟨rfl,hx5⟩;have HQ5:=ZA (Ext.blk hx5 HQ.o);have HX5:=ZA (HX.o.trans hx5);clear hx5 C;go_wp2_with (refine store_whole rfl 33 _ _ rfl w.heap.size rfl ((shaB (0::s.data.toList)).map u8v) rfl HSL.o _ _ HQ5.o HLL.o H1.o ?_);have hsz:(Tryz.prog.info? 33).map (·.size)=some ((shaB (0::s.data.toList)).map u8v).toArray.size:=by rw[HSL.o];simp
 exact bodyPost_ret (v:= .agg ((shaB (0::s.data.toList)).map u8v).toArray) (results_cell_row rfl _ _ w.heap.size 33 _ (0,0) _ rfl (blk_setRow HQ5.o _) Tryz.underlying33 rfl hsz) rfl ⟨by rw[HE.o],Upd.setRow HX5.o (.inl (Nat.le_refl _)) _⟩
theorem empty_h(w:World)(hG:21 < w.heap.size)(htab:ShaTab w):
 Calls Tryz.prog 61 #[] w fun e w'=> e= .returned (hashV emptyH)∧Ext w w':=by
 have X0:=(Upd.refl none' w).alloc (.cells zero32 33);have hq:=blk_alloc w (.cells zero32 33);have C:=ssum_any (w.alloc (.cells zero32 33)) none [] 0 (.inl rfl) (CellsAt.nil _ _) (by simp[flatS]) (by simp) (by have:=X0.size;omega) (htab.ext X0);have HE:=ZA (show emptyH=shaB (flatS []) from rfl);have HX:=ZA X0;have HQ:=ZA hq;have HSL:=ZA (hash_size32 (shaB (flatS [])) (shaB_len _));have H1:=ZA (u8_ones (shaB (flatS [])));have HLL:=ZA (show zero32.toList.length=((shaB (flatS [])).map u8v).length by simp[shaB_len]);generalize shaB (flatS [])=hv at*;clear X0 htab hq;go_enter Tryz.func61,Tryz.ntmps61;go_wp2_with fail;refine C.mono ?_;rintro e w5 ⟨rfl,hx5⟩;have HQ5:=ZA (Ext.blk hx5 HQ.o);have HX5:=ZA (HX.o.trans hx5);clear hx5 C;go_wp2_with (refine store_whole rfl 33 _ _ rfl w.heap.size rfl (hv.map u8v) rfl HSL.o _ _ HQ5.o HLL.o H1.o ?_);have hsz:(Tryz.prog.info? 33).map (·.size)=some (hv.map u8v).toArray.size:=by rw[HSL.o];simp
 exact bodyPost_ret (v:= .agg (hv.map u8v).toArray) (results_cell_row rfl _ _ w.heap.size 33 _ (0,0) _ rfl (blk_setRow HQ5.o _) Tryz.underlying33 rfl hsz) rfl ⟨by rw[HE.o],Upd.setRow HX5.o (.inl (Nat.le_refl _)) _⟩
theorem run_str_blk{w:World}{xs:List UInt8}{t:TypeId}{f:Nat×Nat}(n:Nat)(hn:xs.length=n)(h:w.heap[g]? =some (.cells (xs.map u8v).toArray t f)):
 (convert 50 9 (.slice (some ⟨g,0,none⟩) n n)).run Tryz.prog w= .ok (.string (str xs)) w:=by
 have e:=run_convert_bytes_arg (P:=Tryz.prog) w 50 5 Tryz.underlying50 Tryz.underlying5 g 0 n n (xs.map fun c=> (c.toNat:Int)) (by simpa using hn) (fun i hi=> by rw[Nat.zero_add,cell_of_blk h];simp[show i < xs.length by omega]) 9 Tryz.underlying9
 rw[e,strOfNums_str]
theorem node_h(w:World)(a b:List UInt8)(ha:a.length=32)(hb:b.length=32)(hG:21 < w.heap.size)(htab:ShaTab w):
 Calls Tryz.prog 55 #[hashV a,hashV b] w fun e w'=> e= .returned (hashV (nodeH a b))∧Ext w w':=by
 have X0:=(((Upd.refl none' w).alloc (.cells (a.map u8v).toArray 33)).alloc (.cells (b.map u8v).toArray 33)).alloc (.cells zero32 33);have hA:=blk_alloc_lt (blk_alloc_lt (blk_alloc w (.cells (a.map u8v).toArray 33)) (.cells (b.map u8v).toArray 33)) (.cells zero32 33);have hB:=blk_alloc_lt (blk_alloc (w.alloc (.cells (a.map u8v).toArray 33)) (.cells (b.map u8v).toArray 33)) (.cells zero32 33);have hQ:=blk_alloc ((w.alloc (.cells (a.map u8v).toArray 33)).alloc (.cells (b.map u8v).toArray 33)) (.cells zero32 33);rw[World.size_alloc] at hB;rw[World.size_alloc,World.size_alloc] at hQ;have HX:=ZA X0;have HQ:=ZA hQ;have HA:=ZA hA;have HB:=ZA hB;have HLA:=ZA ha;have HLB:=ZA hb;have HG:=ZA hG;have HT:=ZA htab;clear X0 hA hB hQ ha hb hG htab;go_enter Tryz.func55,Tryz.ntmps55;go_wp2_with fail;generalize World.alloc _ (.cells zero32 33)=W at*;have hc1:=run_str_blk (w:=W.drew) 32 HLA.o HA.o;have hc2:=run_str_blk (w:=W.drew) 32 HLB.o HB.o;have hp:=blk_alloc W.drew (.cells #[.string ⟨#[1]⟩,.string (str a),.string (str b)] 9);have X1:=((Upd.refl none' W).drew).alloc (.cells #[.string ⟨#[1]⟩,.string (str a),.string (str b)] 9);have hfl:flatS [⟨#[1]⟩,str a,str b]=1::(a++b):=by simp[flatS]
 have C:=ssum_any (W.drew.alloc (.cells #[.string ⟨#[1]⟩,.string (str a),.string (str b)] 9)) (some ⟨W.heap.size,0,none⟩) [⟨#[1]⟩,str a,str b] 3 (.inr ⟨_,_,rfl⟩) (fun j v hv=> ⟨_,rfl,by rw[Addr.add_lit];exact (cell_of_blk hp _).trans (by simpa using hv)⟩) (by rw[hfl];simp[HLA.o,HLB.o]) (by simp) (by have:=HX.o.size;have:=X1.size;have:=HG.o;omega) ((HT.o.ext HX.o).ext X1);rw[hfl] at C;have HE:=ZA (show nodeH a b=shaB (1::(a++b)) from rfl);have HX1:=ZA X1;have HSL:=ZA (hash_size32 (shaB (1::(a++b))) (shaB_len _));have H1:=ZA (u8_ones (shaB (1::(a++b))));have HLL:=ZA (show zero32.toList.length=((shaB (1::(a++b))).map u8v).length by simp[shaB_len]);clear hp X1 hfl;go_still_tail 4,(by kernel_rfl);go_wp2_with fail;refine C.mono ?_;rintro e w5 ⟨rfl,hx5⟩;have HQ5:=ZA (Ext.blk hx5 (Ext.blk HX1.o HQ.o));have HX5:=ZA ((HX.o.trans HX1.o).trans hx5);clear hx5 C hc1 hc2;go_wp2_with (refine store_whole rfl 33 _ _ rfl (w.heap.size+1+1) rfl ((shaB (1::(a++b))).map u8v) rfl HSL.o _ _ HQ5.o HLL.o H1.o ?_);have hsz:(Tryz.prog.info? 33).map (·.size)=some ((shaB (1::(a++b))).map u8v).toArray.size:=by rw[HSL.o];simp
 exact bodyPost_ret (v:= .agg ((shaB (1::(a++b))).map u8v).toArray) (results_cell_row rfl _ _ (w.heap.size+1+1) 33 _ (0,0) _ rfl (blk_setRow HQ5.o _) Tryz.underlying33 rfl hsz) rfl ⟨by rw[HE.o],Upd.setRow HX5.o (.inl (by omega)) _⟩
section
variable {P:Program}
theorem any_of_inv{l:List Oper}{C:World→Prop}{Qh:Act→Prop}{Q:Exit→Act→World→Prop}(hln:l.length=n+1)(hb:backB (l.take n)=true)(hg:guardB (l.take n)=true)(ht:tailB l n=true)
 (hQ:∀listed a w,C w→Qh a→listed.size=l.length→(∀i,i < n→listed.getD i false=true)→listed.getD n false=false→wpAny P .any l.toArray Q 1 listed a w):
 ∀(c:Nat) (listed:Array Bool) (a:Act) (w:World),C w→listed.size=l.length→listed.getD n false=false→(∀i o,l[i]? =some o→listed.getD i false=true→∀j∈afterOn o,listed.getD j false=true)→
  (List.range n).countP (fun i=> !listed.getD i true)=c→anyInv P .any (l.take n).toArray C Qh c ((listed.toList.take n).toArray) a→wpAny P .any l.toArray Q (c+1) listed a w:=by
 have htl:(l.take n).length=n:=by rw[List.length_take];omega
 have hts:∀listed:Array Bool,listed.size=l.length→((listed.toList.take n).toArray).size=(l.take n).length:=fun listed h=> by rw[htl];simp;omega
 intro c;induction c with
 | zero=>
  intro listed a w hC hs hlo hdc hc h;rw[Nat.zero_add];refine hQ listed a w hC h.2 hs (fun i hi=> ?_) hlo;have:=all_listed (hts listed hs) hb h.1 i (by omega);rwa [take_getD _ _ _ _ hi] at this
 | succ c ih=>
  intro listed a w hC hs hlo hdc hc h;have hex:∃i,i < n∧listed.getD i true=false:=by
   have:0 < (List.range n).countP (fun i=> !listed.getD i true):=by omega
   obtain ⟨i,hi,h1⟩:=List.countP_pos_iff.1 this;exact ⟨i,List.mem_range.1 hi,by simpa using h1⟩
  have hlow:=tail_low (by omega) ht hs hdc hex;have hready:∀i,i∈Region.ready .any l.toArray listed→i∈Region.ready .any (l.take n).toArray ((listed.toList.take n).toArray):=fun i hi=> by
   have hin:=hlow i hi;obtain ⟨h1,o,h2,h3⟩:=mem_ready.1 hi;refine mem_ready.2 ⟨by rw[take_getD _ _ _ _ hin];exact h1,o,by simpa[List.getElem?_take,hin] using h2,fun e he hbi=> ?_⟩;have hoi:(l.take n)[i]? =some o:=by rw[List.getElem?_take,if_pos hin];simpa using h2
   have hb1:=List.all_eq_true.1 hb i (List.mem_range.2 (by omega));simp only[hoi] at hb1;have hb2:=List.all_eq_true.1 hb1 e.on (List.mem_map.2 ⟨e,List.mem_filter.2 ⟨by simpa using he,hbi⟩,rfl⟩);simp only[decide_eq_true_eq] at hb2;rw[take_getD _ _ _ _ (by omega)];exact h3 e he hbi
  rw[show c+1+1=(c+1)+1 by omega];refine ⟨fun hr=> ?_,fun i hi=> ?_⟩
  ·exfalso;have hr2:Region.ready .any (l.take n).toArray ((listed.toList.take n).toArray)= []:=by
    apply Classical.byContradiction;intro hne;obtain ⟨i,t,hit⟩:=List.exists_cons_of_ne_nil hne;have hi:i∈Region.ready .any (l.take n).toArray ((listed.toList.take n).toArray):=by rw[hit];simp
    obtain ⟨h1,o,h2,h3⟩:=mem_ready.1 hi;have hin:i < n:=by have:=(List.getElem?_eq_some_iff.1 (show (l.take n)[i]? =some o by simpa using h2)).1;omega
    have hoi:(l.take n)[i]? =some o:=by simpa using h2
    have:i∈Region.ready .any l.toArray listed:=mem_ready.2 ⟨by rw[take_getD _ _ _ _ hin] at h1;exact h1,o,by rw[List.getElem?_take,if_pos hin] at hoi;simpa using hoi,fun e he hbi=> by have hb1:=List.all_eq_true.1 hb i (List.mem_range.2 (by omega));simp only[hoi] at hb1;have hb2:=List.all_eq_true.1 hb1 e.on (List.mem_map.2 ⟨e,List.mem_filter.2 ⟨by simpa using he,hbi⟩,rfl⟩);simp only[decide_eq_true_eq] at hb2;have:=h3 e he hbi;rwa [take_getD _ _ _ _ (by omega)] at this⟩
    rw[hr] at this;cases this
   obtain ⟨j,hj,hjf⟩:=hex;have:=all_listed (hts listed hs) hb hr2 j (by omega);rw[take_getD _ _ _ _ hj] at this;have hs2:j < listed.size:=by omega
   simp[hs2] at this hjf;rw[hjf] at this;cases this
  ·have hin:=hlow i hi;have hq:=h.2 i (hready i hi);obtain ⟨h1,o,h2,h3⟩:=mem_ready.1 hi;have hil:l[i]? =some o:=by simpa using h2
   have hit:(l.take n)[i]? =some o:=by rw[List.getElem?_take,if_pos hin];exact hil
   have hlt:i < l.length:=by omega
   have hs1:i < listed.size:=by omega
   have hnext:∀a' w',C w'→anyInv P .any (l.take n).toArray C Qh c (((listed.toList.take n).toArray).setIfInBounds i true) a'→wpAny P .any l.toArray Q (c+1) (listed.setIfInBounds i true) a' w':=fun a' w' hC' h'=> by
    refine ih _ _ _ hC' (by simpa using hs) (by rw[getD_set_ne false (by omega)];exact hlo) (fun k ok hk hl j hj=> ?_) ?_ (by rw[take_set];exact h')
    ·rw[getD_set _ _ _ hs1] at hl⊢;split
     ·rfl
     ·split at hl
      ·rename_i e;subst e;rw[hil] at hk;cases hk
       obtain ⟨e,he,rfl⟩:=List.mem_map.1 hj;obtain ⟨he1,he2⟩:=List.mem_filter.1 he;exact h3 e (by simpa using he1) he2
      ·exact hdc k ok hk hl j hj
    ·have hsep:∀(L:List Nat),L.Nodup→i∈L→L.countP (fun j=> !listed.getD j true)=L.countP (fun j=> !(listed.setIfInBounds i true).getD j true)+1:=by
      intro L hnd hmem;induction L with
      | nil=> cases hmem
      | cons x L ihL=>
       obtain ⟨hx,hnd2⟩:=List.nodup_cons.1 hnd;rw[List.countP_cons,List.countP_cons];by_cases hxi:x=i
       ·subst hxi;have hh:listed.getD x true=false:=by simpa using h1
        have h2':(listed.setIfInBounds x true).getD x true=true:=by simp[hs1]
        have hrest:L.countP (fun j=> !listed.getD j true)=L.countP (fun j=> !(listed.setIfInBounds x true).getD j true):=by apply List.countP_congr;intro j hj;rw[getD_set_ne true (show x≠j from fun e=> hx (e▸hj))]
        rw[hrest,hh,h2'];simp
       ·have hmem2:i∈L:=by rcases List.mem_cons.1 hmem with e | e;exact absurd e.symm hxi;exact e
        rw[ihL hnd2 hmem2,getD_set_ne true (show i≠x from fun e=> hxi e.symm)];omega
     have:=hsep (List.range n) List.nodup_range (List.mem_range.2 hin);omega
   obtain ⟨o',v,ho',hy,hk⟩:=hq;have ho2:(l.take n)[i]? =some o':=by simpa using ho'
   obtain rfl:o'=o:=Option.some.inj (ho2.symm.trans hit);have hy2:InvYields P l.toArray C o' v a:=by unfold InvYields at hy⊢;rw[wanted_take (by omega) hg (List.mem_of_getElem? hit)] at hy;exact hy
   exact hy2.wp h2 hC (fun w' hw'=> hnext _ w' hw' hk)
theorem region_inv_tail{id:Nat}{Q:Exit→Act→World→Prop}{a:Act}{w:World}{l:List Oper}(n:Nat)(C:World→Prop)(hmix:P.follows .mixedOrders=true)(hln:(l.length==n+1)=true)(hB:Region.lexB .any (l.take n).toArray=true)
 (hb:backB l=true) (hg:guardB (l.take n)=true) (ht:tailB l n=true) (hC:C w.drew)
 (h:wpInv P (l.take n).toArray C (fun a'=> ∀w',C w'→wpList P l.toArray Q (l.drop n) a' w') (l.take n) a):(Code.region id l.toArray true).wp P Q a w:=by
 have hln:l.length=n+1:=by simpa using hln
 have htl:(l.take n).length=n:=by rw[List.length_take];omega
 have hb':backB (l.take n)=true:=by
  refine List.all_eq_true.2 (fun i hi=> ?_);have hin:i < n:=by have:=List.mem_range.1 hi;omega
  have:=List.all_eq_true.1 hb i (List.mem_range.2 (by omega));rw[List.getElem?_take,if_pos hin];exact this
 simp only[Region.lexB,Bool.and_eq_true] at hB;have hq:=anyInv_lex (md:= .any) hB.1 (l.take n) 0 (Array.replicate n false) a (by simp) (by have:=hB.2;simpa[htl,hln] using this) h;refine wp_region_any hmix ?_;have rep:∀i,(Array.replicate l.toArray.size false).getD i false=false:=fun i=> by rw[Array.getD_eq_getD_getElem?,Array.getElem?_replicate];split <;> rfl
 have main:=any_of_inv (P:=P) (C:=C) (Qh:=fun a'=> ∀w',C w'→wpList P l.toArray Q (l.drop n) a' w') (Q:=Q) hln hb' hg ht ?_ n (Array.replicate l.toArray.size false) a w.drew hC (by simp) (rep n) (fun i o _ hl=> by rw[rep] at hl;cases hl) ?_ ?_
 ·rw[show n+1=l.toArray.size by simp;omega] at main;exact main
 ·intro listed a' w' hC' hk hs hall hlo;have hon:l[n]? =some (l[n]'(by omega)):=List.getElem?_eq_getElem (by omega);have hdrop:l.drop n= [l[n]'(by omega)]:=by rw[List.drop_eq_getElem_cons (by omega),List.drop_of_length_le (by omega)]
  have hk2:=hk w' hC';rw[hdrop] at hk2;clear hk;generalize l[n]'(by omega)=o at hon hk2 hdrop;have hns:n < listed.size:=by omega
  have hmem:n∈Region.ready .any l.toArray listed:=mem_ready.2 ⟨by simp[hns] at hlo⊢;exact hlo,o,by simpa using hon,fun e he hbi=> by have hb1:=List.all_eq_true.1 hb n (List.mem_range.2 (by omega));simp only[hon] at hb1;have hb2:=List.all_eq_true.1 hb1 e.on (List.mem_map.2 ⟨e,List.mem_filter.2 ⟨by simpa using he,hbi⟩,rfl⟩);simp only[decide_eq_true_eq] at hb2;exact hall e.on hb2⟩
  have honly:∀i,i∈Region.ready .any l.toArray listed→i=n:=fun i hi=> by
   obtain ⟨h1,o',h2,h3⟩:=mem_ready.1 hi;have hlt:i < l.length:=(List.getElem?_eq_some_iff.1 (show l[i]? =some o' by simpa using h2)).1;rcases Nat.lt_or_ge i n with h4 | h4
   ·have:=hall i h4;have hs1:i < listed.size:=by omega
    simp[hs1] at this h1;rw[h1] at this;cases this
   ·omega
  have hend:Region.ready .any l.toArray (listed.setIfInBounds n true)= []:=by
   apply Classical.byContradiction;intro hne;obtain ⟨i,t,hit⟩:=List.exists_cons_of_ne_nil hne;have hi:i∈Region.ready .any l.toArray (listed.setIfInBounds n true):=by rw[hit];simp
   obtain ⟨h1,o',h2,_⟩:=mem_ready.1 hi;have hlt:i < l.length:=(List.getElem?_eq_some_iff.1 (show l[i]? =some o' by simpa using h2)).1;by_cases hni:n=i
   ·subst hni;simp[hns] at h1
   ·rw[getD_set_ne true hni] at h1;have:=hall i (by omega);have hs1:i < listed.size:=by omega
    simp[hs1] at this h1;rw[h1] at this;cases this
  refine ⟨fun hr=> (by rw[hr] at hmem;cases hmem),fun i hi=> ?_⟩;obtain rfl:=honly i hi;unfold wpList at hk2;unfold wpOp;simp only[List.getElem?_toArray,hon];split
  ·rename_i hw;rw[if_pos hw] at hk2;exact hk2.imp (Oper.wp_mono (fun a w h=> ⟨hend,h⟩)) (fun h=> h)
  ·rename_i hw;rw[if_neg hw] at hk2;exact ⟨hend,hk2⟩
 ·have:∀i∈List.range n,(!(Array.replicate l.toArray.size false).getD i true)=true:=fun i hi=> by have hin:=List.mem_range.1 hi;rw[Array.getD_eq_getD_getElem?,Array.getElem?_replicate,if_pos (by simp;omega)];rfl
  rw[List.countP_eq_length.2 this,List.length_range]
 ·have e:(((Array.replicate l.toArray.size false).toList.take n).toArray)=Array.replicate n false:=by simp[List.take_replicate,hln]
  rw[e,←htl];rw[htl];rw[htl] at hq;exact hq
end
section
variable {P:Program} {ops:Array Oper} {I:World→Prop} {Q:Act→Prop} {o:Oper} {rest:List Oper} {a:Act}
theorem inv_nil(h:Q a):wpInv P ops I Q [] a:=h
end
end Go.Proofs.YtjnjpgdoncbahaaGreatDoor
