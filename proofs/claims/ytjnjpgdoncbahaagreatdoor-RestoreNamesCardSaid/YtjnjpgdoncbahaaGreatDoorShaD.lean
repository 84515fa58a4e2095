/- sha.Digest: its calls by contracts. -/
import Derived.Test.YtjnjpgdoncbahaaGreatDoorTyped2
import Derived.Test.YtjnjpgdoncbahaaGreatDoorTree
import Derived.Test.YtjnjpgdoncbahaaGreatDoorCode
namespace Go.Proofs.YtjnjpgdoncbahaaGreatDoor
open Go.RowKit Go.Lib
set_option maxRecDepth 20000
set_option maxHeartbeats 8000000
variable {B db g hb n o:Nat}{S:Nat→Prop}{hs:List Int}{l r:List UInt8}{rv:Value}{w w':World}
def shaStart:List Int:= [1779033703,3144134277,1013904242,2773480762,1359893119,2600822924,528734635,1541459225]
abbrev abs(h:List Int)(l:List UInt8):List Int:=absorb blockP h l
theorem blockP_len(h:List Int)(l:List UInt8):(blockP h l).length=8:=addL_len _ _ _
structure DigS (B:Nat) (w:World) (db hb:Nat) (rv:Value) (n:Nat) (hs:List Int) (r:List UInt8):Prop where
 blk:w.heap[db]? =some (.cells #[.pointer (some ⟨hb,0,none⟩),rv,.int .u64 (n:Int)] 407 (0,0))
 hblk:w.heap[hb]? =some (.cells (u32C hs).toArray 405 (0,0))
 row:w.ownsRow B 5 1 rv r.length (r.map u8v)
 len:hs.length=8
 lo1:B≤db
 lo2:B≤hb
def fpG(db hb:Nat)(rv:Value)(g:Nat):Prop:=g=db∨g=hb∨rv.ownBlock=some g
theorem DigS.upd(h:DigS B w db hb rv n hs r)(u:Upd S w w')(hS:∀g,fpG db hb rv g→¬S g):DigS B w' db hb rv n hs r:=
 ⟨u.blk h.blk (hS _ (.inl rfl)),u.blk h.hblk (hS _ (.inr (.inl rfl))),ownsRow_upd h.row u (fun g hg=> hS g (.inr (.inr hg))),h.len,h.lo1,h.lo2⟩
theorem DigS.ext(h:DigS B w db hb rv n hs r)(u:Ext w w'):DigS B w' db hb rv n hs r:=h.upd u (fun _ _=> id)
theorem ShaTab.upd(h:ShaTab w)(u:Upd S w w')(hS:¬S 21):ShaTab w':=fun k hk=> by have:=h k hk;rw[Upd.cell u (lt_of_cell this) hS];exact this
theorem DigS.setN(h:DigS B w db hb rv n hs r)(m:Nat):DigS B (w.setCell ⟨db,2,none⟩ (.int .u64 (m:Int))) db hb rv m hs r:=by have U:=(Upd.refl (one db) w).setCell (p:=⟨db,2,none⟩) (.inr rfl) (.int .u64 (m:Int));exact ⟨blk_set h.blk 2 _,U.blk h.hblk (tyNe h.hblk h.blk (by decide)),ownsRow_upd h.row U (rowNe h.row h.blk (by decide)),h.len,h.lo1,h.lo2⟩
theorem DigS.setR{rv':Value}{r':List UInt8}(h:DigS B w db hb rv n hs r)(u:Upd S w w')(h1:¬S db)(h2:¬S hb)(ho:w'.ownsRow B 5 1 rv' r'.length (r'.map u8v)):DigS B (w'.setCell ⟨db,1,none⟩ rv') db hb rv' n hs r':=by have U:=(Upd.refl (one db) w').setCell (p:=⟨db,1,none⟩) (.inr rfl) rv';have hb':=u.blk h.blk h1;have hh':=u.blk h.hblk h2;exact ⟨blk_set hb' 1 _,U.blk hh' (tyNe hh' hb' (by decide)),ownsRow_upd ho U (rowNe ho hb' (by decide)),h.len,h.lo1,h.lo2⟩
def WrRel(B db hb:Nat)(rc:Nat)(RA:Option Addr)(sg N:Nat)(hs:List Int)(y:List UInt8)(w:World)(bv:Value)(wr:World):Prop:=
 ∃(z:List UInt8) (so c:Nat) (h:List Int),bv= .slice (some ⟨sg,so,none⟩) z.length c∧z.length≤c∧CellsAt wr (some ⟨sg,so,none⟩) (z.map u8v)∧z.length≤y.length∧abs h z=abs hs y∧restB z=restB y∧DigS B wr db hb (.slice RA 0 rc) N h []∧Upd (one hb) w wr
theorem RowB.of(h:CellsAt w (some ⟨g,o,none⟩) (l.map u8v))(hl:64≤l.length):RowB w g o l:=fun i hi=> by
 have hil:i < l.length:=by omega
 have:=h.cell (j:=i) (v:=u8v (l[i]'hil)) (by rw[List.getElem?_map,List.getElem?_eq_getElem hil];rfl);rw[this];simp[by8,List.getD_eq_getElem?_getD,hil]
theorem RowB.take(h:RowB w g o l):RowB w g o (l.take 64):=fun i hi=> by rw[h i hi];simp[by8,List.getD_eq_getElem?_getD,List.getElem?_take,hi]
theorem DigS.low(h:DigS B w db hb rv n hs r):∀g,fpG db hb rv g→B≤g:=fun g hg=> by
 rcases hg with rfl | rfl | e
 ·exact h.lo1
 ·exact h.lo2
 ·exact (h.row.lt g e).1
theorem DigS.setH{hs':List Int}(h:DigS B w db hb rv n hs r)(u:Upd (one hb) w w')(hh:w'.heap[hb]? =some (.cells (u32C hs').toArray 405 (0,0)))(hl:hs'.length=8):DigS B w' db hb rv n hs' r:=
 ⟨u.blk h.blk (tyNe h.blk h.hblk (by decide)),hh,ownsRow_upd h.row u (rowNe h.row h.hblk (by decide)),hl,h.lo1,h.lo2⟩
def lenOf2:Value→Nat
 | .slice _ n _=> n
 | _=> 0
theorem write_any(D:DigS B w db hb rv n hs r)(hr:r.length < 64)(hB:B≤w.heap.size)(hG:21 < B)(htab:ShaTab w)
 (sg so:Nat) (x:List UInt8) (xc:Nat) (hxc:x.length≤xc) (hsrc:CellsAt w (some ⟨sg,so,none⟩) (x.map u8v)) (hsep:¬fpG db hb rv sg) (hn:n+x.length < 1152921504606846976) (hx:x.length < 1099511627776):
 Calls Tryz.prog 230 #[.pointer (some ⟨db,0,none⟩),.slice (some ⟨sg,so,none⟩) x.length xc] w fun e w'=> e= .returned (.tuple #[])∧
  ∃rv',DigS B w' db hb rv' (n+x.length) (abs hs (r++x)) (restB (r++x))∧(∀g,rv'.ownBlock=some g→rv.ownBlock=some g∨w.heap.size≤g)∧Upd (fpG db hb rv) w w':=by
 obtain ⟨i0,hi0,hz0,hz1,hz2⟩:=info_parts info_u8;obtain ⟨RA,rc,rfl⟩:=own_sl D.row;have HD:=ZA D;have HB:=ZA hB;have HT:=ZA htab;have HSRC:=ZA hsrc;have HSEP:=ZA hsep;have b0:w.cell? ⟨db,0,none⟩=some (.pointer (some ⟨hb,0,none⟩)):=cell_of_blk D.blk 0;have b2:w.cell? ⟨db,2,none⟩=some (.int .u64 (n:Int)):=cell_of_blk D.blk 2;have f2:=free_of_blk D.blk 2;have hn1:(n:Int)+x.length < 1152921504606846976:=by omega
 have hx1:(x.length:Int) < 1099511627776:=by omega
 have HD1:=ZA (D.setN (n+x.length));have HU1:=ZA (show Upd (fpG db hb (.slice RA r.length rc)) w (w.setCell ⟨db,2,none⟩ (.int .u64 ((n+x.length:Nat):Int))) from (Upd.refl _ w).setCell (p:=⟨db,2,none⟩) (.inr (.inl rfl)) _);have b1':(w.setCell ⟨db,2,none⟩ (.int .u64 ((n:Int)+x.length))).cell? ⟨db,1,none⟩=some (.slice RA r.length rc):=by have:=cell_of_blk HD1.o.blk 1;simpa using this
 have b0':(w.setCell ⟨db,2,none⟩ (.int .u64 ((n:Int)+x.length))).cell? ⟨db,0,none⟩=some (.pointer (some ⟨hb,0,none⟩)):=by have:=cell_of_blk HD1.o.blk 0;simpa using this
 have f1':(w.setCell ⟨db,2,none⟩ (.int .u64 ((n:Int)+x.length))).frozen? ⟨db,1,none⟩=false:=by have:=free_of_blk HD1.o.blk 1;simpa using this
 clear D hB htab hsrc hsep;by_cases hr0:r= []
 ·subst hr0;go_enter Tryz.func230,Tryz.ntmps230;go_wp2_with fail;have HDT:=ZA (show DigS B (w.setCell ⟨db,2,none⟩ (.int .u64 ((n:Int)+x.length))) db hb (.slice RA 0 rc) (n+x.length) hs [] from by have:=HD1.o;simpa using this);have HUT:=ZA (show Upd (fpG db hb (.slice RA 0 rc)) w (w.setCell ⟨db,2,none⟩ (.int .u64 ((n:Int)+x.length))) from by have:=HU1.o;simpa using this);clear HD1 HU1 b0 b2 f2 b1' b0' f1' hn1;generalize w.setCell ⟨db,2,none⟩ (.int .u64 ((n:Int)+x.length))=W at*;have HTT:=ZA (show ShaTab W from HT.o.upd HUT.o (fun e=> by have:=HD.o.low _ e;omega));have HST:=ZA (show CellsAt W (some ⟨sg,so,none⟩) (x.map u8v) from HSRC.o.upd HUT.o (fun ad e=> by cases e;exact HSEP.o));have HXC:=ZA hxc;have HYL:=ZA (Nat.le_refl x.length);clear hxc hn;go_loopw [1] (fun bv wr=> WrRel B db hb rc RA sg (n+x.length) hs x W bv wr) (fun bv _=> lenOf2 bv);case atStart=> exact ⟨_,_,_,_,rfl,HXC.o,HST.o,Nat.le_refl _,rfl,rfl,HDT.o,Upd.refl _ _⟩
  case round=>
   obtain ⟨z,so',c,h,rfl,hzc,hsrc,hzy,ha,hrest,hd,hu⟩:=hrel;have HD3:=ZA hd;have HU3:=ZA hu;have HS3:=ZA hsrc;have HA3:=ZA ha;have HR3:=ZA hrest;have HX3:=ZA hx;have b0:wr.cell? ⟨db,0,none⟩=some (.pointer (some ⟨hb,0,none⟩)):=cell_of_blk hd.blk 0;have b1:wr.cell? ⟨db,1,none⟩=some (.slice RA 0 rc):=cell_of_blk hd.blk 1;have f1:=free_of_blk hd.blk 1;have hzi1:(z.length:Int)≤c:=by omega
   have hzx:z.length≤x.length:=Nat.le_trans hzy HYL.o;have hzi3:(z.length:Int) < 1099511627776:=by have:=HX3.o;omega
   have HZY:=ZA hzy;clear hd hu hsrc ha hrest hx hzy;by_cases hz:64≤z.length
   ·have hzi:(64:Int)≤z.length:=by omega
    have hzi2:(64:Int)≤c:=by omega
    have C:=block_any wr.drew hb sg so' c h (z.take 64) (HD3.o.ext ((Upd.refl none' wr).drew)).hblk HD3.o.len (RowB.take (RowB.of (HS3.o.ext ((Upd.refl none' wr).drew)) hz)) (HTT.o.upd (HU3.o.drew) (fun e=> by have:21=hb:=e;have:=HD3.o.lo2;omega));have HC:=ZA hzc;have HD4:=ZA (HD3.o.ext ((Upd.refl none' wr).drew));have ha2:abs h z=abs (blockP h (z.take 64)) (z.drop 64):=absorb_ge blockP hz;have hr2:restB z=restB (z.drop 64):=restB_ge hz;have HA4:=ZA ha2;have HR4:=ZA hr2;have hld:(z.drop 64).length=z.length - 64:=List.length_drop;have HLD:=ZA hld;clear ha2 hr2 hzc hld;by_cases hcap:c=64
    ·have hcc:(c:Int)=64:=by omega
     have HCAP:=ZA hcap;subst hcap;have hz64:z.length=64:=by have:=HC.o;omega
     have HZ64:=ZA hz64;have hzl:(z.length:Int)=64:=by omega
     clear hcc;go_wp2_with fail;go_still_tail 6,(by kernel_rfl);go_wp2_with fail;refine C.mono ?_;rintro e w5 ⟨rfl,hh5,u5⟩;clear hz64;go_wp2_with fail;refine ⟨⟨z.drop 64,so',0,blockP h (z.take 64),by rw[HLD.o,HZ64.o],by rw[HLD.o,HZ64.o];decide,?_,by have:=HZY.o;rw[HLD.o];omega,by rw[←HA4.o];exact HA3.o,by rw[←HR4.o];exact HR3.o,?_,HU3.o.drew.then u5 (fun _ _ h=> h)⟩,?_⟩
     ·rw[List.drop_of_length_le (by rw[HZ64.o];omega)];exact CellsAt.nil _ _
     ·exact HD4.o.setH u5 hh5 (blockP_len _ _)
     ·have:=HZ64.o;simp[lenOf2];omega
    ·have hcl:(64:Int) < c:=by have:=HC.o;omega
     have hcne:¬((c:Int) - 64=0):=by omega
     go_wp2_with fail;go_still_tail 6,(by kernel_rfl);go_wp2_with fail;refine C.mono ?_;rintro e w5 ⟨rfl,hh5,u5⟩;go_wp2_with fail;refine ⟨⟨z.drop 64,so'+64,c - 64,blockP h (z.take 64),by rw[HLD.o],by rw[HLD.o];have:=HC.o;omega,?_,by have:=HZY.o;rw[HLD.o];omega,by rw[←HA4.o];exact HA3.o,by rw[←HR4.o];exact HR3.o,?_,HU3.o.drew.then u5 (fun _ _ h=> h)⟩,?_⟩
     ·have h2:=(HS3.o.ext ((Upd.refl none' wr).drew)).drop 64;rw[←List.map_drop] at h2;refine h2.upd u5 (fun ad e=> ?_);cases e
      exact fun e=> HSEP.o (.inr (.inl e))
     ·exact HD4.o.setH u5 hh5 (blockP_len _ _)
     ·simp[lenOf2];omega
   ·have hzl:¬(64:Int)≤z.length:=by omega
    have HAE:=ZA (show abs h z=h from absorb_lt blockP (by omega));have HRE:=ZA (show restB z=z from restB_small (by omega));have HRW:=ZA (show wr.ownsRow B 5 1 (.slice RA 0 rc) 0 [] from HD3.o.row);have HLN:=ZA (show (z.map u8v).length=z.length*1 by simp);have HM:=ZA (show 0+z.length≤maxLen∧(0+z.length)*1≤140737488355328 by unfold maxLen;omega);have HBW:=ZA (show B≤wr.heap.size from Nat.le_trans HD3.o.lo1 (Nat.le_of_lt (lt_of_blk HD3.o.blk)));have H1:=ZA (u8_ones z);go_wp2_with (at_builtin;refine wpList_appX rfl _ _ 50 rfl B 5 i0 _ 1 1 Tryz.underlying50 hi0 hz0 hz1 hz2 rfl (by decide) (.slice RA 0 rc) 0 [] rfl HRW.o (some ⟨sg,so',none⟩) z.length c (z.map u8v) rfl HLN.o HS3.o H1.o HM.o.1 HM.o.2 HBW.o ?_;intro A' c' w6 hown hgrow hat;simp only[Nat.zero_add,List.nil_append] at hown hat;have U6:=ZA ((Upd.refl (fun g=> (Value.slice RA 0 rc).ownBlock=some g) wr).grown hgrow (fun k hk=> .inr hk));have HB6:=ZA (U6.o.blk HD3.o.blk (fun e=> rowNe HD3.o.row HD3.o.blk (by decide) db e rfl));have b1:=cell_of_blk HB6.o 1;have f1:=free_of_blk HB6.o 1;have HOWN:=ZA hown;have HAT:=ZA hat;clear hown hat hgrow);go_end0;have e1:abs hs (x)=h:=HA3.o.symm.trans HAE.o;have e2:restB (x)=z:=HR3.o.symm.trans HRE.o;rw[e1,e2];have U0:Upd (fpG db hb (.slice RA 0 rc)) w wr:=HUT.o.then HU3.o (fun _ _ e=> .inr (.inl e));refine ⟨rfl,.slice A' z.length c',?_,fun g hg=> ?_,?_⟩
    ·exact HD3.o.setR U6.o (fun e=> rowNe HD3.o.row HD3.o.blk (by decide) db e rfl) (fun e=> rowNe HD3.o.row HD3.o.hblk (by decide) hb e rfl) HOWN.o
    ·rcases HAT.o with h1 | h1
     ·rw[h1] at hg;left;exact hg
     ·right;rw[h1] at hg;cases hg;exact U0.size
    ·exact (U0.then U6.o (fun b hb e=> by exact .inr (.inr e))).setCell (p:=⟨db,1,none⟩) (.inr (.inl rfl)) _
 ·have hrl:0 < r.length:=List.length_pos_iff.2 hr0;have HR0:=ZA hr0;clear hr0;have hrl1:(0:Int) < r.length:=by omega
  have hrl2:(r.length:Int) < 64:=by omega
  have HDT:=ZA (show DigS B (w.setCell ⟨db,2,none⟩ (.int .u64 ((n:Int)+x.length))) db hb (.slice RA r.length rc) (n+x.length) hs r from by have:=HD1.o;simpa using this);have HUT:=ZA (show Upd (fpG db hb (.slice RA r.length rc)) w (w.setCell ⟨db,2,none⟩ (.int .u64 ((n:Int)+x.length))) from by have:=HU1.o;simpa using this);have HH1:=ZA (u8_ones x);have HBW:=ZA (show B≤(w.setCell ⟨db,2,none⟩ (.int .u64 ((n:Int)+x.length))).drew.heap.size from Nat.le_trans HB.o HUT.o.size);clear HD1 HU1;by_cases hsum:r.length+x.length < 64
  ·have hmin:min ((64:Int) - r.length) x.length=x.length:=by omega
   have hs1:(r.length:Int)+x.length < 64:=by omega
   have HLN:=ZA (show (x.map u8v).length=x.length*1 by simp);have HM:=ZA (show r.length+x.length≤maxLen∧(r.length+x.length)*1≤140737488355328 by unfold maxLen;omega);go_enter Tryz.func230,Tryz.ntmps230;go_wp2_with fail;clear b0 b2 f2 b1' b0' f1' hn1;generalize w.setCell ⟨db,2,none⟩ (.int .u64 ((n:Int)+x.length))=W at*;have b1:W.cell? ⟨db,1,none⟩=some (.slice RA r.length rc):=cell_of_blk HDT.o.blk 1;have f1:=free_of_blk HDT.o.blk 1;have HD5:=ZA (HDT.o.ext ((Upd.refl none' W).drew));have HST:=ZA (show CellsAt W.drew (some ⟨sg,so,none⟩) (x.map u8v) from (HSRC.o.upd HUT.o (fun ad e=> by cases e;exact HSEP.o)).ext ((Upd.refl none' W).drew));go_region_law (refine step_appX (by rfl) _ _ 50 (by rfl) B 5 i0 _ 1 1 Tryz.underlying50 hi0 hz0 hz1 hz2 rfl (by decide) (.slice RA r.length rc) r.length (r.map u8v) (by rfl) HD5.o.row (some ⟨sg,so,none⟩) x.length xc (x.map u8v) (by rfl) HLN.o HST.o HH1.o HM.o.1 HM.o.2 HBW.o ?_;intro A' c' w6 hown hgrow hat;have U6:=ZA ((Upd.refl (fun g=> (Value.slice RA r.length rc).ownBlock=some g) W.drew).grown hgrow (fun k hk=> .inr hk));have HB6:=ZA (U6.o.blk HD5.o.blk (fun e=> rowNe HD5.o.row HD5.o.blk (by decide) db e rfl));have b1:=cell_of_blk HB6.o 1;have f1:=free_of_blk HB6.o 1;have HOWN:=ZA hown;have HAT:=ZA hat;clear hown hat hgrow);have HD7:=ZA (HD5.o.setR (r':=r++x) (rv':= .slice A' (r.length+x.length) c') U6.o (fun e=> rowNe HD5.o.row HD5.o.blk (by decide) db e rfl) (fun e=> rowNe HD5.o.row HD5.o.hblk (by decide) hb e rfl) (by have:=HOWN.o;rw[List.length_append,List.map_append];exact this));have HU7:=ZA (show Upd (fpG db hb (.slice RA r.length rc)) w (w6.setCell ⟨db,1,none⟩ (.slice A' (r.length+x.length) c')) from ((HUT.o.drew).then U6.o (fun _ _ e=> .inr (.inr e))).setCell (p:=⟨db,1,none⟩) (.inr (.inl rfl)) _);have HSZ:=ZA (show w.heap.size≤W.drew.heap.size from HUT.o.size);clear b1 f1 HB6 HOWN U6;generalize w6.setCell ⟨db,1,none⟩ (.slice A' (r.length+x.length) c')=W7 at*;have b17:W7.cell? ⟨db,1,none⟩=some (.slice A' (r.length+x.length) c'):=cell_of_blk HD7.o.blk 1;have HAE:=ZA (show abs hs (r++x)=hs from absorb_lt blockP (by simp;omega));have HRE:=ZA (show restB (r++x)=r++x from restB_small (by simp;omega));rcases Nat.lt_or_ge x.length xc with hxx | hxx
   ·have hx2:(x.length:Int) < xc:=by omega
    have hx3:¬((xc:Int) - x.length=0):=by omega
    go_wp2_with fail;refine bodyPost_ret (results_none rfl _ _ _) rfl ?_;refine ⟨rfl,_,by rw[HAE.o,HRE.o];exact HD7.o,fun g hg=> ?_,HU7.o⟩;rcases HAT.o with h1 | h1
    ·left;rw[h1] at hg;exact hg
    ·right;rw[h1] at hg;cases hg;exact HSZ.o
   ·obtain rfl:xc=x.length:=by omega
    go_wp2_with fail;refine bodyPost_ret (results_none rfl _ _ _) rfl ?_;refine ⟨rfl,_,by rw[HAE.o,HRE.o];exact HD7.o,fun g hg=> ?_,HU7.o⟩;rcases HAT.o with h1 | h1
    ·left;rw[h1] at hg;exact hg
    ·right;rw[h1] at hg;cases hg;exact HSZ.o
  ·obtain ⟨k,hk⟩:∃k,r.length+k=64:=⟨64 - r.length,by omega⟩;have hkx:k≤x.length:=by omega
   have hmin:min (k:Int) x.length=k:=by omega
   have hke:(64:Int) - r.length=k:=by omega
   have HK:=ZA hk;have hk1:(k:Int)≤x.length:=by omega
   have hk2:(k:Int)≤xc:=by omega
   have hk3:(0:Int)≤k:=by omega
   have hk5:k≤xc:=by omega
   have hk4:(k:Int) < 64:=by omega
   have hnl:¬((r.length:Int)+k < 64):=by omega
   have htl:(x.take k).length=k:=by rw[List.length_take];omega
   have HLN:=ZA (show ((x.take k).map u8v).length=k*1 by simp;omega);have HM:=ZA (show r.length+k≤maxLen∧(r.length+k)*1≤140737488355328 by unfold maxLen;omega);have HH1:=ZA (u8_ones (x.take k));have HTL:=ZA htl;clear htl hk;go_enter Tryz.func230,Tryz.ntmps230;go_wp2_with fail;clear b0 b2 f2 b1' b0' f1' hn1;generalize w.setCell ⟨db,2,none⟩ (.int .u64 ((n:Int)+x.length))=W at*;have b1:W.cell? ⟨db,1,none⟩=some (.slice RA r.length rc):=cell_of_blk HDT.o.blk 1;have f1:=free_of_blk HDT.o.blk 1;have HD5:=ZA (HDT.o.ext ((Upd.refl none' W).drew));have HSX:=ZA (show CellsAt W (some ⟨sg,so,none⟩) (x.map u8v) from HSRC.o.upd HUT.o (fun ad e=> by cases e;exact HSEP.o));have HST:=ZA (show CellsAt W.drew (some ⟨sg,so,none⟩) ((x.take k).map u8v) from by rw[List.map_take];exact (HSX.o.ext ((Upd.refl none' W).drew)).take k);go_region_law (refine step_appX (by rfl) _ _ 50 (by rfl) B 5 i0 _ 1 1 Tryz.underlying50 hi0 hz0 hz1 hz2 rfl (by decide) (.slice RA r.length rc) r.length (r.map u8v) (by rfl) HD5.o.row (some ⟨sg,so,none⟩) k xc ((x.take k).map u8v) (by rfl) HLN.o HST.o HH1.o HM.o.1 HM.o.2 HBW.o ?_;intro A' c' w6 hown hgrow hat;have U6:=ZA ((Upd.refl (fun g=> (Value.slice RA r.length rc).ownBlock=some g) W.drew).grown hgrow (fun k hk=> .inr hk));have HB6:=ZA (U6.o.blk HD5.o.blk (fun e=> rowNe HD5.o.row HD5.o.blk (by decide) db e rfl));have b1:=cell_of_blk HB6.o 1;have f1:=free_of_blk HB6.o 1;have HOWN:=ZA hown;have HAT:=ZA hat;clear hown hat hgrow);have hform:=own_form HOWN.o;rcases hform with ⟨_,h0⟩ | ⟨g7,cap7,hv,_⟩
   ·exact absurd h0 (by have:=HK.o;omega)
   simp only[Value.slice.injEq,true_and] at hv;obtain ⟨rfl,rfl⟩:=hv;obtain ⟨c7,hc7⟩:∃c7,c7=c':=⟨_,rfl⟩;subst hc7;have HD7:=ZA (HD5.o.setR (r':=r++x.take k) (rv':= .slice (some ⟨g7,0,none⟩) (r.length+k) c7) U6.o (fun e=> rowNe HD5.o.row HD5.o.blk (by decide) db e rfl) (fun e=> rowNe HD5.o.row HD5.o.hblk (by decide) hb e rfl) (by have:=HOWN.o;rw[List.length_append,List.map_append,HTL.o];exact this));have HU7:=ZA (show Upd (fpG db hb (.slice RA r.length rc)) w (w6.setCell ⟨db,1,none⟩ (.slice (some ⟨g7,0,none⟩) (r.length+k) c7)) from ((HUT.o.drew).then U6.o (fun _ _ e=> .inr (.inr e))).setCell (p:=⟨db,1,none⟩) (.inr (.inl rfl)) _);have HG2:=ZA (show g7≥w.heap.size∨(Value.slice RA r.length rc).ownBlock=some g7 from by
    rcases HAT.o with h1 | h1
    ·exact .inr h1.symm
    ·left;have h2:g7=W.drew.heap.size:=by simpa[Value.ownBlock] using h1
     rw[h2];exact HUT.o.size)
   clear b1 f1 HB6 HOWN U6 HAT;generalize w6.setCell ⟨db,1,none⟩ (.slice (some ⟨g7,0,none⟩) (r.length+k) c7)=W7 at*;have hl64:r.length+k=64:=HK.o;rw[hl64] at HD7;have HL64:=ZA hl64;clear hl64;have b17:W7.cell? ⟨db,1,none⟩=some (.slice (some ⟨g7,0,none⟩) 64 c7):=cell_of_blk HD7.o.blk 1;have b07:W7.cell? ⟨db,0,none⟩=some (.pointer (some ⟨hb,0,none⟩)):=cell_of_blk HD7.o.blk 0;have HR7:=ZA (show W7.ownsRow B 5 1 (.slice (some ⟨g7,0,none⟩) 64 c7) 64 ((r++x.take k).map u8v) from by have:=HD7.o.row;rw[List.length_append,HTL.o,HL64.o] at this;exact this);have C:=block_any W7.drew hb g7 0 c7 hs (r++x.take k) (HD7.o.ext ((Upd.refl none' W7).drew)).hblk HD7.o.len (RowB.of (CellsAt.ext (CellsAt.row HR7.o) ((Upd.refl none' W7).drew)) (by rw[List.length_append,HTL.o,HL64.o];exact Nat.le_refl _)) ((HT.o.upd HU7.o (fun e=> by have:=HD.o.low _ e;omega)).ext ((Upd.refl none' W7).drew));rcases Nat.lt_or_ge k xc with hxx | hxx
   ·have hx2:(k:Int) < xc:=by omega
    have hx3:¬((xc:Int) - k=0):=by omega
    go_wp2_with fail;go_still_tail 8,(by kernel_rfl);go_wp2_with fail;refine C.mono ?_;rintro e w8 ⟨rfl,hh8,u8⟩;have HD8:=ZA ((HD7.o.ext ((Upd.refl none' W7).drew)).setH u8 hh8 (blockP_len _ _));have HU8:=ZA (show Upd (fpG db hb (.slice RA r.length rc)) w w8 from HU7.o.drew.then u8 (fun _ _ e=> .inr (.inl e)));have b18:w8.cell? ⟨db,1,none⟩=some (.slice (some ⟨g7,0,none⟩) 64 c7):=cell_of_blk HD8.o.blk 1;have f18:=free_of_blk HD8.o.blk 1;clear b17 b07 hh8 u8;go_wp2_with fail;have HR8:=ZA (show w8.ownsRow B 5 1 (.slice (some ⟨g7,0,none⟩) 0 c7) ([]:List UInt8).length (([]:List UInt8).map u8v) from by have h:=HD8.o.row;rw[List.length_append,HTL.o,HL64.o] at h;have h2:=row_cut h (Nat.zero_le 64);simpa using h2)
    have HD9:=ZA (HD8.o.setR (Upd.refl none' w8) id id HR8.o);have HU9:=ZA (HU8.o.setCell (p:=⟨db,1,none⟩) (.inr (.inl rfl)) (.slice (some ⟨g7,0,none⟩) 0 c7));have hfst:(r++x).take 64=r++x.take k:=by rw[List.take_append,List.take_of_length_le (by have:=HL64.o;omega),show 64 - r.length=k by have:=HL64.o;omega]
    have hsnd:(r++x).drop 64=x.drop k:=by rw[List.drop_append,List.drop_of_length_le (by have:=HL64.o;omega),List.nil_append,show 64 - r.length=k by have:=HL64.o;omega]
    have hle:64≤(r++x).length:=by rw[List.length_append];have:=HL64.o;omega
    have HWAY1:=ZA (show abs hs (r++x)=abs (blockP hs (r++x.take k)) (x.drop k) from by rw[←hfst,←hsnd];exact absorb_ge blockP hle);have HWAY2:=ZA (show restB (r++x)=restB (x.drop k) from by rw[←hsnd];exact restB_ge hle);clear hfst hsnd hle b18 f18 HD8 HU8 HR8;generalize hW9:w8.setCell ⟨db,1,none⟩ (.slice (some ⟨g7,0,none⟩) 0 c7)=W9 at*;have hUX:=HU9.o;have HT9:=ZA (show ShaTab W9 from HT.o.upd hUX (fun e=> by have:=HD.o.low _ e;omega));have HS9:=ZA (show CellsAt W9 (some ⟨sg,so+k,none⟩) ((x.drop k).map u8v) from by rw[List.map_drop];exact (HSRC.o.upd hUX (fun ad e=> by cases e;exact HSEP.o)).drop k);have HXC9:=ZA (show (x.drop k).length≤(xc - k) by rw[List.length_drop];omega);have HSL:=ZA (show Value.slice (some ⟨sg,so+k,none⟩) (x.length - k) (xc - k)= .slice (some ⟨sg,so+k,none⟩) (x.drop k).length (xc - k) by rw[List.length_drop]);have HYL:=ZA (show (x.drop k).length≤x.length from by rw[List.length_drop];exact Nat.sub_le _ _);clear hW9 hUX hxc hn hkx hk1;generalize blockP hs (r++x.take k)=hs9 at*;go_loopw [1] (fun bv wr=> WrRel B db hb c7 (some ⟨g7,0,none⟩) sg (n+x.length) hs9 (x.drop k) W9 bv wr) (fun bv _=> lenOf2 bv);case atStart=> exact ⟨_,_,_,_,HSL.o,HXC9.o,HS9.o,Nat.le_refl _,rfl,rfl,HD9.o,Upd.refl _ _⟩
    case round=>
     obtain ⟨z,so',c,h,rfl,hzc,hsrc,hzy,ha,hrest,hd,hu⟩:=hrel;have HD3:=ZA hd;have HU3:=ZA hu;have HS3:=ZA hsrc;have HA3:=ZA ha;have HR3:=ZA hrest;have HX3:=ZA hx;have b0:wr.cell? ⟨db,0,none⟩=some (.pointer (some ⟨hb,0,none⟩)):=cell_of_blk hd.blk 0;have b1:wr.cell? ⟨db,1,none⟩=some (.slice (some ⟨g7,0,none⟩) 0 c7):=cell_of_blk hd.blk 1;have f1:=free_of_blk hd.blk 1;have hzi1:(z.length:Int)≤c:=by omega
     have hzx:z.length≤x.length:=Nat.le_trans hzy HYL.o;have hzi3:(z.length:Int) < 1099511627776:=by have:=HX3.o;omega
     have HZY:=ZA hzy;clear hd hu hsrc ha hrest hx hzy;by_cases hz:64≤z.length
     ·have hzi:(64:Int)≤z.length:=by omega
      have hzi2:(64:Int)≤c:=by omega
      have C:=block_any wr.drew hb sg so' c h (z.take 64) (HD3.o.ext ((Upd.refl none' wr).drew)).hblk HD3.o.len (RowB.take (RowB.of (HS3.o.ext ((Upd.refl none' wr).drew)) hz)) (HT9.o.upd (HU3.o.drew) (fun e=> by have:21=hb:=e;have:=HD3.o.lo2;omega));have HC:=ZA hzc;have HD4:=ZA (HD3.o.ext ((Upd.refl none' wr).drew));have ha2:abs h z=abs (blockP h (z.take 64)) (z.drop 64):=absorb_ge blockP hz;have hr2:restB z=restB (z.drop 64):=restB_ge hz;have HA4:=ZA ha2;have HR4:=ZA hr2;have hld:(z.drop 64).length=z.length - 64:=List.length_drop;have HLD:=ZA hld;clear ha2 hr2 hzc hld;by_cases hcap:c=64
      ·have hcc:(c:Int)=64:=by omega
       have HCAP:=ZA hcap;subst hcap;have hz64:z.length=64:=by have:=HC.o;omega
       have HZ64:=ZA hz64;have hzl:(z.length:Int)=64:=by omega
       clear hcc;go_wp2_with fail;go_still_tail 6,(by kernel_rfl);go_wp2_with fail;refine C.mono ?_;rintro e w5 ⟨rfl,hh5,u5⟩;clear hz64;go_wp2_with fail;refine ⟨⟨z.drop 64,so',0,blockP h (z.take 64),by rw[HLD.o,HZ64.o],by rw[HLD.o,HZ64.o];decide,?_,by have:=HZY.o;rw[HLD.o];omega,by rw[←HA4.o];exact HA3.o,by rw[←HR4.o];exact HR3.o,?_,HU3.o.drew.then u5 (fun _ _ h=> h)⟩,?_⟩
       ·rw[List.drop_of_length_le (by rw[HZ64.o];omega)];exact CellsAt.nil _ _
       ·exact HD4.o.setH u5 hh5 (blockP_len _ _)
       ·have:=HZ64.o;simp[lenOf2];omega
      ·have hcl:(64:Int) < c:=by have:=HC.o;omega
       have hcne:¬((c:Int) - 64=0):=by omega
       go_wp2_with fail;go_still_tail 6,(by kernel_rfl);go_wp2_with fail;refine C.mono ?_;rintro e w5 ⟨rfl,hh5,u5⟩;go_wp2_with fail;refine ⟨⟨z.drop 64,so'+64,c - 64,blockP h (z.take 64),by rw[HLD.o],by rw[HLD.o];have:=HC.o;omega,?_,by have:=HZY.o;rw[HLD.o];omega,by rw[←HA4.o];exact HA3.o,by rw[←HR4.o];exact HR3.o,?_,HU3.o.drew.then u5 (fun _ _ h=> h)⟩,?_⟩
       ·have h2:=(HS3.o.ext ((Upd.refl none' wr).drew)).drop 64;rw[←List.map_drop] at h2;refine h2.upd u5 (fun ad e=> ?_);cases e
        exact fun e=> HSEP.o (.inr (.inl e))
       ·exact HD4.o.setH u5 hh5 (blockP_len _ _)
       ·simp[lenOf2];omega
     ·have hzl:¬(64:Int)≤z.length:=by omega
      have HAE:=ZA (show abs h z=h from absorb_lt blockP (by omega));have HRE:=ZA (show restB z=z from restB_small (by omega));have HRW:=ZA (show wr.ownsRow B 5 1 (.slice (some ⟨g7,0,none⟩) 0 c7) 0 [] from HD3.o.row);have HLN:=ZA (show (z.map u8v).length=z.length*1 by simp);have HM:=ZA (show 0+z.length≤maxLen∧(0+z.length)*1≤140737488355328 by unfold maxLen;omega);have HBW:=ZA (show B≤wr.heap.size from Nat.le_trans HD3.o.lo1 (Nat.le_of_lt (lt_of_blk HD3.o.blk)));have H1:=ZA (u8_ones z);go_wp2_with (at_builtin;refine wpList_appX rfl _ _ 50 rfl B 5 i0 _ 1 1 Tryz.underlying50 hi0 hz0 hz1 hz2 rfl (by decide) (.slice (some ⟨g7,0,none⟩) 0 c7) 0 [] rfl HRW.o (some ⟨sg,so',none⟩) z.length c (z.map u8v) rfl HLN.o HS3.o H1.o HM.o.1 HM.o.2 HBW.o ?_;intro A' c' w6 hown hgrow hat;simp only[Nat.zero_add,List.nil_append] at hown hat;have U6:=ZA ((Upd.refl (fun g=> (Value.slice (some ⟨g7,0,none⟩) 0 c7).ownBlock=some g) wr).grown hgrow (fun k hk=> .inr hk));have HB6:=ZA (U6.o.blk HD3.o.blk (fun e=> rowNe HD3.o.row HD3.o.blk (by decide) db e rfl));have b1:=cell_of_blk HB6.o 1;have f1:=free_of_blk HB6.o 1;have HOWN:=ZA hown;have HAT:=ZA hat;clear hown hat hgrow);go_end0;have e1:abs hs (r++x)=h:=HWAY1.o.trans (HA3.o.symm.trans HAE.o);have e2:restB (r++x)=z:=HWAY2.o.trans (HR3.o.symm.trans HRE.o);rw[e1,e2];have U0:Upd (fpG db hb (.slice RA r.length rc)) w wr:=HU9.o.then HU3.o (fun _ _ e=> .inr (.inl e));refine ⟨rfl,.slice A' z.length c',?_,fun g hg=> ?_,?_⟩
      ·exact HD3.o.setR U6.o (fun e=> rowNe HD3.o.row HD3.o.blk (by decide) db e rfl) (fun e=> rowNe HD3.o.row HD3.o.hblk (by decide) hb e rfl) HOWN.o
      ·rcases HAT.o with h1 | h1
       ·rw[h1] at hg;cases hg;exact HG2.o.symm
       ·right;rw[h1] at hg;cases hg;exact U0.size
      ·exact (U0.then U6.o (fun b hb e=> by have e2:g7=b:=(by simpa[Value.ownBlock] using e);subst e2;exact HG2.o.elim (fun h=> absurd hb (Nat.not_lt.2 h)) (fun h=> .inr (.inr h)))).setCell (p:=⟨db,1,none⟩) (.inr (.inl rfl)) _
   ·obtain rfl:k=xc:=by omega
    have hx4:(k:Int) - k=0:=by omega
    have hx5:(x.length:Int) - k=0:=by omega
    have hx6:x.length=k:=by omega
    have HX6:=ZA hx6;clear hx6;go_wp2_with fail;go_still_tail 8,(by kernel_rfl);go_wp2_with fail;refine C.mono ?_;rintro e w8 ⟨rfl,hh8,u8⟩;have HD8:=ZA ((HD7.o.ext ((Upd.refl none' W7).drew)).setH u8 hh8 (blockP_len _ _));have HU8:=ZA (show Upd (fpG db hb (.slice RA r.length rc)) w w8 from HU7.o.drew.then u8 (fun _ _ e=> .inr (.inl e)));have b18:w8.cell? ⟨db,1,none⟩=some (.slice (some ⟨g7,0,none⟩) 64 c7):=cell_of_blk HD8.o.blk 1;have f18:=free_of_blk HD8.o.blk 1;clear b17 b07 hh8 u8;go_wp2_with fail;have HR8:=ZA (show w8.ownsRow B 5 1 (.slice (some ⟨g7,0,none⟩) 0 c7) ([]:List UInt8).length (([]:List UInt8).map u8v) from by have h:=HD8.o.row;rw[List.length_append,HTL.o,HL64.o] at h;have h2:=row_cut h (Nat.zero_le 64);simpa using h2)
    have HD9:=ZA (HD8.o.setR (Upd.refl none' w8) id id HR8.o);have HU9:=ZA (HU8.o.setCell (p:=⟨db,1,none⟩) (.inr (.inl rfl)) (.slice (some ⟨g7,0,none⟩) 0 c7));have hfst:(r++x).take 64=r++x.take k:=by rw[List.take_append,List.take_of_length_le (by have:=HL64.o;omega),show 64 - r.length=k by have:=HL64.o;omega]
    have hsnd:(r++x).drop 64=x.drop k:=by rw[List.drop_append,List.drop_of_length_le (by have:=HL64.o;omega),List.nil_append,show 64 - r.length=k by have:=HL64.o;omega]
    have hle:64≤(r++x).length:=by rw[List.length_append];have:=HL64.o;omega
    have HWAY1:=ZA (show abs hs (r++x)=abs (blockP hs (r++x.take k)) (x.drop k) from by rw[←hfst,←hsnd];exact absorb_ge blockP hle);have HWAY2:=ZA (show restB (r++x)=restB (x.drop k) from by rw[←hsnd];exact restB_ge hle);clear hfst hsnd hle b18 f18 HD8 HU8 HR8;generalize hW9:w8.setCell ⟨db,1,none⟩ (.slice (some ⟨g7,0,none⟩) 0 c7)=W9 at*;have hUX:=HU9.o;have HT9:=ZA (show ShaTab W9 from HT.o.upd hUX (fun e=> by have:=HD.o.low _ e;omega));have HS9:=ZA (show CellsAt W9 (some ⟨sg,so,none⟩) ((x.drop k).map u8v) from by rw[List.drop_of_length_le (by have:=HX6.o;omega)];exact CellsAt.nil _ _);have HXC9:=ZA (show (x.drop k).length≤0 by rw[List.length_drop];have:=HX6.o;omega);have HSL:=ZA (show Value.slice (some ⟨sg,so,none⟩) 0 0= .slice (some ⟨sg,so,none⟩) (x.drop k).length 0 by rw[List.length_drop];congr 1;have:=HX6.o;omega);have HYL:=ZA (show (x.drop k).length≤x.length from by rw[List.length_drop];exact Nat.sub_le _ _);clear hW9 hUX hxc hn hkx hk1;generalize blockP hs (r++x.take k)=hs9 at*;go_loopw [1] (fun bv wr=> WrRel B db hb c7 (some ⟨g7,0,none⟩) sg (n+x.length) hs9 (x.drop k) W9 bv wr) (fun bv _=> lenOf2 bv);case atStart=> exact ⟨_,_,_,_,HSL.o,HXC9.o,HS9.o,Nat.le_refl _,rfl,rfl,HD9.o,Upd.refl _ _⟩
    case round=>
     obtain ⟨z,so',c,h,rfl,hzc,hsrc,hzy,ha,hrest,hd,hu⟩:=hrel;have HD3:=ZA hd;have HU3:=ZA hu;have HS3:=ZA hsrc;have HA3:=ZA ha;have HR3:=ZA hrest;have HX3:=ZA hx;have b0:wr.cell? ⟨db,0,none⟩=some (.pointer (some ⟨hb,0,none⟩)):=cell_of_blk hd.blk 0;have b1:wr.cell? ⟨db,1,none⟩=some (.slice (some ⟨g7,0,none⟩) 0 c7):=cell_of_blk hd.blk 1;have f1:=free_of_blk hd.blk 1;have hzi1:(z.length:Int)≤c:=by omega
     have hzx:z.length≤x.length:=Nat.le_trans hzy HYL.o;have hzi3:(z.length:Int) < 1099511627776:=by have:=HX3.o;omega
     have HZY:=ZA hzy;clear hd hu hsrc ha hrest hx hzy;by_cases hz:64≤z.length
     ·have hzi:(64:Int)≤z.length:=by omega
      have hzi2:(64:Int)≤c:=by omega
      have C:=block_any wr.drew hb sg so' c h (z.take 64) (HD3.o.ext ((Upd.refl none' wr).drew)).hblk HD3.o.len (RowB.take (RowB.of (HS3.o.ext ((Upd.refl none' wr).drew)) hz)) (HT9.o.upd (HU3.o.drew) (fun e=> by have:21=hb:=e;have:=HD3.o.lo2;omega));have HC:=ZA hzc;have HD4:=ZA (HD3.o.ext ((Upd.refl none' wr).drew));have ha2:abs h z=abs (blockP h (z.take 64)) (z.drop 64):=absorb_ge blockP hz;have hr2:restB z=restB (z.drop 64):=restB_ge hz;have HA4:=ZA ha2;have HR4:=ZA hr2;have hld:(z.drop 64).length=z.length - 64:=List.length_drop;have HLD:=ZA hld;clear ha2 hr2 hzc hld;by_cases hcap:c=64
      ·have hcc:(c:Int)=64:=by omega
       have HCAP:=ZA hcap;subst hcap;have hz64:z.length=64:=by have:=HC.o;omega
       have HZ64:=ZA hz64;have hzl:(z.length:Int)=64:=by omega
       clear hcc;go_wp2_with fail;go_still_tail 6,(by kernel_rfl);go_wp2_with fail;refine C.mono ?_;rintro e w5 ⟨rfl,hh5,u5⟩;clear hz64;go_wp2_with fail;refine ⟨⟨z.drop 64,so',0,blockP h (z.take 64),by rw[HLD.o,HZ64.o],by rw[HLD.o,HZ64.o];decide,?_,by have:=HZY.o;rw[HLD.o];omega,by rw[←HA4.o];exact HA3.o,by rw[←HR4.o];exact HR3.o,?_,HU3.o.drew.then u5 (fun _ _ h=> h)⟩,?_⟩
       ·rw[List.drop_of_length_le (by rw[HZ64.o];omega)];exact CellsAt.nil _ _
       ·exact HD4.o.setH u5 hh5 (blockP_len _ _)
       ·have:=HZ64.o;simp[lenOf2];omega
      ·have hcl:(64:Int) < c:=by have:=HC.o;omega
       have hcne:¬((c:Int) - 64=0):=by omega
       go_wp2_with fail;go_still_tail 6,(by kernel_rfl);go_wp2_with fail;refine C.mono ?_;rintro e w5 ⟨rfl,hh5,u5⟩;go_wp2_with fail;refine ⟨⟨z.drop 64,so'+64,c - 64,blockP h (z.take 64),by rw[HLD.o],by rw[HLD.o];have:=HC.o;omega,?_,by have:=HZY.o;rw[HLD.o];omega,by rw[←HA4.o];exact HA3.o,by rw[←HR4.o];exact HR3.o,?_,HU3.o.drew.then u5 (fun _ _ h=> h)⟩,?_⟩
       ·have h2:=(HS3.o.ext ((Upd.refl none' wr).drew)).drop 64;rw[←List.map_drop] at h2;refine h2.upd u5 (fun ad e=> ?_);cases e
        exact fun e=> HSEP.o (.inr (.inl e))
       ·exact HD4.o.setH u5 hh5 (blockP_len _ _)
       ·simp[lenOf2];omega
     ·have hzl:¬(64:Int)≤z.length:=by omega
      have HAE:=ZA (show abs h z=h from absorb_lt blockP (by omega));have HRE:=ZA (show restB z=z from restB_small (by omega));have HRW:=ZA (show wr.ownsRow B 5 1 (.slice (some ⟨g7,0,none⟩) 0 c7) 0 [] from HD3.o.row);have HLN:=ZA (show (z.map u8v).length=z.length*1 by simp);have HM:=ZA (show 0+z.length≤maxLen∧(0+z.length)*1≤140737488355328 by unfold maxLen;omega);have HBW:=ZA (show B≤wr.heap.size from Nat.le_trans HD3.o.lo1 (Nat.le_of_lt (lt_of_blk HD3.o.blk)));have H1:=ZA (u8_ones z);go_wp2_with (at_builtin;refine wpList_appX rfl _ _ 50 rfl B 5 i0 _ 1 1 Tryz.underlying50 hi0 hz0 hz1 hz2 rfl (by decide) (.slice (some ⟨g7,0,none⟩) 0 c7) 0 [] rfl HRW.o (some ⟨sg,so',none⟩) z.length c (z.map u8v) rfl HLN.o HS3.o H1.o HM.o.1 HM.o.2 HBW.o ?_;intro A' c' w6 hown hgrow hat;simp only[Nat.zero_add,List.nil_append] at hown hat;have U6:=ZA ((Upd.refl (fun g=> (Value.slice (some ⟨g7,0,none⟩) 0 c7).ownBlock=some g) wr).grown hgrow (fun k hk=> .inr hk));have HB6:=ZA (U6.o.blk HD3.o.blk (fun e=> rowNe HD3.o.row HD3.o.blk (by decide) db e rfl));have b1:=cell_of_blk HB6.o 1;have f1:=free_of_blk HB6.o 1;have HOWN:=ZA hown;have HAT:=ZA hat;clear hown hat hgrow);go_end0;have e1:abs hs (r++x)=h:=HWAY1.o.trans (HA3.o.symm.trans HAE.o);have e2:restB (r++x)=z:=HWAY2.o.trans (HR3.o.symm.trans HRE.o);rw[e1,e2];have U0:Upd (fpG db hb (.slice RA r.length rc)) w wr:=HU9.o.then HU3.o (fun _ _ e=> .inr (.inl e));refine ⟨rfl,.slice A' z.length c',?_,fun g hg=> ?_,?_⟩
      ·exact HD3.o.setR U6.o (fun e=> rowNe HD3.o.row HD3.o.blk (by decide) db e rfl) (fun e=> rowNe HD3.o.row HD3.o.hblk (by decide) hb e rfl) HOWN.o
      ·rcases HAT.o with h1 | h1
       ·rw[h1] at hg;cases hg;exact HG2.o.symm
       ·right;rw[h1] at hg;cases hg;exact U0.size
      ·exact (U0.then U6.o (fun b hb e=> by have e2:g7=b:=(by simpa[Value.ownBlock] using e);subst e2;exact HG2.o.elim (fun h=> absurd hb (Nat.not_lt.2 h)) (fun h=> .inr (.inr h)))).setCell (p:=⟨db,1,none⟩) (.inr (.inl rfl)) _
end Go.Proofs.YtjnjpgdoncbahaaGreatDoor
