/- restore.Leaves of a store that holds a checkpoint, the edges' tiles and the leaves, by contract; reads may fail. PRINTED by wip/tools/gen_rsleaves.py. The statements' small of chapter 26, fits, unlike, by contracts. The statements' unlike of chapter 26 by contract. The statements' told of chapter 26 by contract. restore.Open by contract. -/
import Derived.Test.YtjnjpgdoncbahaaGreatDoorFDec
import Derived.Test.YtjnjpgdoncbahaaGreatDoorRefGrP
namespace Go.Proofs.YtjnjpgdoncbahaaGreatDoor
open Go.RowKit Go.Lib Go.Sort
set_option maxRecDepth 20000
set_option maxHeartbeats 32000000
variable {B b lb mb n q:Nat}{R:HB}{ls:List (List UInt8)}{lv tv:Value}{se:Nat→Addr}{w w':World}{x:StD}
def LvRes(se:Nat→Addr)(B:Nat)(R:HB)(ls:List (List UInt8))(e:Ending)(w':World):Bool→Prop
 | true=> (mthP (leafHs ls)=R∧∃lb lv,e= .returned (.tuple #[.pointer (some ⟨lb,0,none⟩),.nilIface])∧NvAt B w' lb lv ls)∨(mthP (leafHs ls)≠R∧e= .returned (.tuple #[.pointer none,sv se 9]))
 | false=> e= .returned (.tuple #[.pointer none,sv se 7])
def LeavesPost(se:Nat→Addr)(b mb:Nat)(tv:Value)(x:StD)(w:World)(R:HB)(es:List (List HB))(ls:List (List UInt8))(e:Ending)(w':World):Prop:=
 ∃x' ok,RdOut x (1+rdsE es+ls.length) x' ok∧StAt w' b mb tv x'∧Upd (one b) w w'∧LvRes se w.heap.size R ls e w' ok
def LvRel(w:World)(B b mb p q q1 q2 lb:Nat)(se:Nat→Addr)(tv:Value)(x:StD)(n:Nat)(R:HB)(es:List (List HB))(ls:List (List UInt8))(iv:Value)(wr:World):Prop:=
 ∃(i:Nat) (lv:Value) (xk:StD),i≤n∧iv= .int .u64 i∧NvAt w.heap.size wr lb lv (ls.take i)∧RdOut x (1+rdsE es+i) xk true∧HdW w B b mb p q q1 q2 se tv n R xk wr
theorem HdW.nv{p q1 q2:Nat}{xk:StD}{wr:World}(h:HdW w B b mb p q q1 q2 se tv n R xk wr)(hB:B≤w.heap.size)(V:NvAt w.heap.size wr lb lv ls)(u:Upd (fun g=> g=lb∨lv.ownBlock=some g) wr w'):HdW w B b mb p q q1 q2 se tv n R xk w':=by
 have N:∀(g:Nat) (o:Obj),wr.heap[g]? =some o→(∀c f,o≠ .cells c 197 f∧o≠ .cells c 9 f)→¬(g=lb∨lv.ownBlock=some g):=fun g o hg hne e=> by
  rcases e with rfl | e
  ·rw[V.blk] at hg;exact (hne _ _).1 (Option.some.inj hg).symm
  ·obtain ⟨c,hc⟩:=rowT V.row e;rw[hc] at hg;exact (hne _ _).2 (Option.some.inj hg).symm
 have L:∀g,(g=lb∨lv.ownBlock=some g)→w.heap.size≤g:=fun g e=> by
  rcases e with rfl | e
  ·exact V.lo
  ·exact (V.row.lt g e).1
 obtain ⟨es,c,hm⟩:=h.st.tex.blk;exact ⟨u.blk h.pc (N p _ h.pc (by simp)),u.blk h.qc (N q _ h.qc (by simp)),h.gt.upd u (N q1 _ h.gt.b1 (by simp)) (N q2 _ h.gt.b2 (by simp)),
  h.st.upd u (N b _ h.st.blk (by simp)) (N mb _ hm (by simp)) (fun g hg=> by obtain ⟨c1,hc1⟩:=rowT h.st.row hg;exact N g _ hc1 (by simp)),h.en.upd u (fun g hg=> Nat.le_trans hB (L g hg)),h.up.then u (fun g hg e=> by have:=L g e;omega)⟩
theorem NvAt.rd{B0:Nat}(V:NvAt B0 w lb lv ls)(H:StAt w b mb tv x)(hq:w.heap[q]? =some (.cells #[.nilIface] 24 (0,0)))(u:Upd (two b q) w w'):NvAt B0 w' lb lv ls:=
 V.upd u (fun e=> by
  have h9:=V.blk;rcases e with e | e
  ·rw[e,H.blk] at h9;simp at h9
  ·rw[e,hq] at h9;simp at h9) (fun g hg e=> by
  obtain ⟨c,hc⟩:=rowT V.row hg;rcases e with e | e
  ·rw[e,H.blk] at hc;simp at hc
  ·rw[e,hq] at hc;simp at hc)
theorem rsleaves_any{es:List (List HB)}(E:Env B se w)(H:StAt w b mb tv x)(hB:B≤b)(T:HeadT x.texts ls.length R es)(hR:rootE es=R)(hlf:∀i s,ls[i]? =some s→lookL x.texts (leafN i)=some (str s))(hsz:∀s∈ls,s.length≤65536)(hd:x.dead=false)(hn:x.nr < 1099511627776)(hL:x.rs.length < 1099511627776):
 Calls Tryz.prog 11 #[.pointer (some ⟨b,0,none⟩)] w (LeavesPost se b mb tv x w R es ls):=by
 have C:=rshead_any E H hB T hd hn hL;have HBS:=ZA E.g.size;have HBB:=ZA hB;have HE:=ZA E;have HT:=ZA T;have HR:=ZA hR;have HLF:=ZA hlf;have HSZ:=ZA hsz;have HNL:=ZA (And.intro hd (And.intro hn hL));have HBL:=ZA (lt_of_blk H.blk);have HES:=ZA (show rdsE es≤3 from Nat.le_trans List.countP_le_length (fits_3 T.fit (by have:=T.n20;omega)));obtain ⟨n,hln⟩:∃n,n=ls.length:=⟨_,rfl⟩;have HLN:=ZA hln;have HN20:=ZA (show n≤1048576 by rw[hln];exact T.n20);rw[←hln] at C;clear E H T hR hlf hsz hd hn hL hB hln;go_enter Tryz.func11,Tryz.ntmps11;go_wp2_with fail;refine C.mono ?_;rintro e w1 ⟨x1,ok,hrd,hst,hu,hres⟩;have HRD:=ZA hrd;have HST:=ZA hst;have HU:=ZA hu;have HE1:=ZA (HE.o.upd hu (fun g hg=> by rw[show g=b from hg];exact HBB.o));clear C hrd hst hu;cases ok with
 | false=>
  unfold HdRes at hres;subst hres;rw[show sv se 7= .iface 457 (.pointer (some (se 7))) from rfl];obtain ⟨a7,h7⟩:∃a,a=se 7:=⟨_,rfl⟩;have H7:=ZA h7;rw[←h7];have HSZC:=ZA ck_zero35;clear h7;go_wp2_with (refine store_new rfl 36 _ _ rfl _ _ rfl (ckC [] 0 z32B) rfl HSZC.o rfl (ck_ones [] 0 z32B) ?_);have X:=(Upd.refl none' w1).alloc (.cells (ckC [] 0 z32B).toArray 36);go_ret2;exact ⟨x1,false,HRD.o.wide (by omega),HST.o.ext X,HU.o.thenExt X,by unfold LvRes;rw[H7.o];rfl⟩
 | true=>
  unfold HdRes at hres;obtain ⟨-,ev,vs,rfl, -⟩:_∧_:=by
   rcases hres with h | h
   ·exact h
   ·exact absurd HR.o h.1
  have HSN:=ZA (ck_size35 oL n R HT.o.r32);have HLC:Hid (zckA.size=(ckC oL n R).length):=ZA (by rw[ck_len oL n R HT.o.r32];rfl);obtain ⟨p,hp⟩:∃p,p=w1.heap.size:=⟨_,rfl⟩;have HP2:Hid ((w1.alloc (.cells (ckC oL n R).toArray 36)).heap[p]? =some (.cells (ckC oL n R).toArray 36 (0,0))):=ZA (by rw[hp];exact blk_alloc _ _);have HX2:=ZA ((Upd.refl none' w1).alloc (.cells (ckC oL n R).toArray 36));have HP:=ZA hp;go_wp2_with (refine store_new rfl 36 _ _ rfl _ _ rfl (ckC oL n R) rfl HSN.o HLC.o (ck_ones oL n R) ?_);rw[←hp];obtain ⟨q,hq⟩:∃q,q=p+1:=⟨_,rfl⟩;have HQ3:Hid (((w1.alloc (.cells (ckC oL n R).toArray 36)).alloc (.cells #[.nilIface] 24)).heap[q]? =some (.cells #[.nilIface] 24 (0,0))):=ZA (by have h:=blk_alloc (w1.alloc (.cells (ckC oL n R).toArray 36)) (.cells #[.nilIface] 24);rwa [World.size_alloc,←hp,←hq] at h)
  have HX3:=ZA (HX2.o.alloc (.cells #[.nilIface] 24));have HP3:Hid (((w1.alloc (.cells (ckC oL n R).toArray 36)).alloc (.cells #[.nilIface] 24)).heap[p]? =some (.cells (ckC oL n R).toArray 36 (0,0))):=ZA (blk_alloc_lt HP2.o _);have HPQ:Hid (w.heap.size≤p∧p < q∧b < p∧B≤q):=ZA (by have h1:=HU.o.size;have h2:=HBL.o;have h3:=HBS.o;omega)
  rw[←hq];generalize (w1.alloc (.cells (ckC oL n R).toArray 36)).alloc (.cells #[.nilIface] 24)=w3 at*;clear hp hq;refine (getter_any w3 b q).mono ?_;rintro e w4 ⟨q1,q2,rfl,hgt,hq1,hq2,hx4⟩;have HX4:=ZA (HX3.o.trans hx4);have HD4:Hid (HdW w B b mb p q q1 q2 se tv n R x1 w4):=ZA ⟨Ext.blk hx4 HP3.o,Ext.blk hx4 HQ3.o,hgt,HST.o.ext HX4.o,HE1.o.ext HX4.o,HU.o.thenExt HX4.o⟩;have CN:=nnew_any w4;clear hgt hq1 hq2 hx4;go_wp2_with fail;refine CN.mono ?_;rintro e w5 ⟨rfl,hnv,hx5⟩;obtain ⟨lb,hlb⟩:∃lb,lb=w4.heap.size:=⟨_,rfl⟩;have HD5:=ZA (HD4.o.ext hx5);have HNV:=ZA (hnv.low (B':=w.heap.size) (HD4.o.up.size));rw[←hlb] at HNV⊢;have c1:w5.cell? ⟨p,1,none⟩=some (.int .u64 n):=cell_of_blk HD5.o.pc 1;clear CN hnv hx5 hlb;go_wp2_with fail;clear c1;go_loopw [30] (fun iv wr=> LvRel w B b mb p q q1 q2 lb se tv x n R es ls iv wr) (fun iv _=> n - (RowKit.intOf iv).toNat);case atStart=> exact ⟨0,_,x1,Nat.zero_le _,rfl,HNV.o,HRD.o,HD5.o⟩
  case round=>
   obtain ⟨i,lv,xk,hi,rfl,hnv,hrd,hw⟩:=hrel;have HV:=ZA hnv;have HRK:=ZA hrd;have HW:=ZA hw;have HI:=ZA hi;clear hnv hrd hw;by_cases hlt:i < n
   ·have hlti:(i:Int) < n:=by omega
    have hib:i < 1048576:=by have:=HN20.o;omega
    obtain ⟨s,hs⟩:∃s,ls[i]? =some s:=⟨_,List.getElem?_eq_getElem (by rw[←HLN.o];exact hlt)⟩;have HLK:=ZA (HLF.o i s hs);have HS:=ZA (HSZ.o s (List.mem_of_getElem? hs));have HTK:Hid (ls.take (i+1)=ls.take i++ [s]):=ZA (by rw[List.take_add_one,hs];rfl);have HTL:Hid ((ls.take i).length=i):=ZA (by rw[List.length_take];have:=HLN.o;omega);have CF:=leaf_any i (by omega) wr HW.o.en.t10;rw[show str leafB++str (Lib.decDigits i)=leafN i from rfl] at CF;have HNM:=ZA (leafN_ok i (by omega));have hwi:IntKind.u64.wrap ((i:Int)+1)=((i+1:Nat):Int):=by rw[IntKind.wrap_u64];omega
    have HLT:=ZA hlt;clear hs hlt hi;generalize leafN i=nm at*;go_wp2_with fail;refine CF.mono ?_;rintro e1 w6 ⟨rfl,hx6⟩;have HW6:=ZA (HW.o.ext hx6);have HV6:=ZA (HV.o.ext hx6);obtain ⟨s1,s2,s3,s4,s5,s6,s7⟩:=HRK.o.same;have hes:=HES.o;have CG:=getter1_any HW6.o.en.g HW6.o.st HBB.o HPQ.o.2.2.2 HW6.o.gt HW6.o.qc HNM.o (s5.trans HNL.o.1) (by have:=HNL.o.2.1;have:=HN20.o;have:=HI.o;omega) (by rw[s2];have:=HNL.o.2.2;omega) (by rw[s1];exact HLK.o);clear CF hx6 s1 s2 s3 s4 s5 s6 s7 hes;generalize hxr:xk.rd=rd at*;have HXR:=ZA hxr;clear hxr;cases rd with
    | true=>
     simp only[if_true] at CG;rw[show sv se 7= .iface 457 (.pointer (some (se 7))) from rfl] at CG;obtain ⟨a7,h7⟩:∃a,a=se 7:=⟨_,rfl⟩;have H7:=ZA h7;rw[←h7] at CG;clear h7;go_wp2_with fail;refine CG.mono ?_;rintro e3 w9 ⟨rfl,hst,hq9,hgt9,hu⟩;have HST9:=ZA hst;have HUW9:Hid (Upd (one b) w w9):=ZA (HW6.o.up.then hu (fun g hg e=> by
      rcases e with e | e
      ·exact e
      ·have:=HPQ.o;omega))
     have cq:w9.cell? ⟨q,0,none⟩=some (.iface 457 (.pointer (some a7))):=cell_of_blk hq9 0;clear CG hst hq9 hgt9 hu;go_wp2_with fail;go_quiet (fail);go_wp2_with fail;go_ret2;exact ⟨xk.on 1,false,HRK.o.fail HXR.o (by have:=HLT.o;have:=HLN.o;omega),HST9.o.ext ((Upd.refl _ _).drewN _),HUW9.o.thenExt ((Upd.refl _ _).drewN _),by unfold LvRes;rw[H7.o];rfl⟩
    | false=>
     simp only[Bool.false_eq_true,if_false] at CG;go_wp2_with fail;refine CG.mono ?_;rintro e3 w9 ⟨rfl,hst,hq9,hgt9,hu⟩;have HV9:=ZA (HV6.o.rd HW6.o.st HW6.o.qc hu);have HW9:Hid (HdW w B b mb p q q1 q2 se tv n R (xk.on 1) w9):=ZA ⟨hu.blk HW6.o.pc (fun e=> by have:=HPQ.o;rcases e with e | e <;> omega),hq9,hgt9,hst,HW6.o.en.upd hu (fun g e=> by have:=HBB.o;have:=HPQ.o;rcases e with e | e <;> omega),HW6.o.up.then hu (fun g hg e=> by
      rcases e with e | e
      ·exact e
      ·have:=HPQ.o;omega)⟩
     have cq:w9.cell? ⟨q,0,none⟩=some .nilIface:=cell_of_blk hq9 0;have CA:=nappend_any HV9.o s HS.o (by rw[HTL.o];exact hib);rw[HTL.o] at CA;clear CG hst hq9 hgt9 hu;go_wp2_with fail;refine CA.mono ?_;rintro e4 wd ⟨rfl,⟨lv2,hnv⟩,hxd⟩;have HVD:=ZA hnv;have HWD:=ZA (HW9.o.nv HBS.o HV9.o hxd);clear CA cq hxd hnv;go_wp2_with fail;have hlt:=HLT.o;refine ⟨⟨i+1,lv2,xk.on 1,by omega,by first | rfl | (simp <;> omega),by rw[HTK.o];exact HVD.o,HRK.o.more HXR.o,HWD.o⟩,?_⟩;simp[RowKit.intOf];omega
   ·have hin:i=n:=by omega
    subst hin;have hlti:¬(i:Int) < i:=by omega
    have HVF:Hid (NvAt w.heap.size wr lb lv ls):=ZA (by have h:=HV.o;rwa [HLN.o,List.take_length] at h);have HRF:Hid (RdOut x (1+rdsE es+ls.length) xk true):=ZA (by rw[←HLN.o];exact HRK.o);have CR:=nroot_any HVF.o i (by rw[HLN.o];exact Nat.le_refl _) HW.o.en.sgw HW.o.en.sh;rw[show mthP (segH ls 0 i)=mthP (leafHs ls) by rw[HLN.o,segH_all]] at CR;have HX32:=ZA (root_len ls);have HR32:=ZA HT.o.r32;obtain ⟨X,hX⟩:∃X,X=mthP (leafHs ls):=⟨_,rfl⟩;have HXE:=ZA hX;rw[←hX] at CR HX32;have HSX:=ZA (hash_size32 X HX32.o);have HSR:=ZA (hash_size32 R HR32.o);have HZX:=ZA (show zero32.size=(X.map u8v).length by rw[List.length_map,HX32.o];rfl);have c1:wr.cell? ⟨p,1,none⟩=some (.int .u64 i):=cell_of_blk HW.o.pc 1;clear hX hlt hi;go_wp2_with fail;refine CR.mono ?_;rintro e1 w6 ⟨rfl,hx6⟩;have HXA:=ZA (hx6.alloc (.cells (X.map u8v).toArray 33));have HWA:=ZA (HW.o.ext HXA.o);have HVA:=ZA (HVF.o.ext HXA.o);have HCX:=ZA (blk_cells (blk_alloc w6 (.cells (X.map u8v).toArray 33)));have HCR:Hid (∀t u,(R.map u8v)[t]? =some u→(w6.alloc (.cells (X.map u8v).toArray 33)).cell? ⟨p,2+t,none⟩=some u):=ZA (fun t u hu=> by rw[cell_of_blk HWA.o.pc];have hl:t < (R.map u8v).length:=(List.getElem?_eq_some_iff.1 hu).1;simp only[ckC,List.getElem?_toArray];rw[show 2+t=t+1+1 by omega,List.getElem?_cons_succ,List.getElem?_cons_succ,List.getElem?_append_left hl];exact hu)
    clear CR hx6 c1;by_cases hXR:X=R
    ·have hne:(!decide (X=R))=false:=by simp[hXR]
     have HXR:=ZA hXR;clear hXR;go_wp2_with (first
      | (refine store_new rfl 33 _ _ rfl _ _ rfl (X.map u8v) rfl HSX.o HZX.o (u8_ones X) ?_)
      | (refine wpList_runG rfl (run_ldA _ rfl w6.heap.size 0 rfl (X.map u8v) Tryz.underlying33 rfl HSX.o HCX.o) ?_)
      | (refine wpList_runG rfl (run_ldA _ rfl p 2 rfl (R.map u8v) Tryz.underlying33 rfl HSR.o HCR.o) ?_)
      | (refine wpList_runG rfl (run_val (run_neqH _ rfl X R rfl rfl HX32.o HR32.o) (congrArg Value.bool hne)) ?_))
     go_ret2;exact ⟨xk,true,HRF.o,HWA.o.st,HWA.o.up,.inl ⟨HXE.o▸HXR.o,lb,lv,rfl,HVA.o⟩⟩
    ·have hne:(!decide (X=R))=true:=by simp[hXR]
     have HXR:=ZA hXR;clear hXR;have g9:(w6.alloc (.cells (X.map u8v).toArray 33)).cell? ⟨1,0,none⟩=some (sv se 9):=HWA.o.en.g.cell 9 (by decide) (by decide);rw[show sv se 9= .iface 457 (.pointer (some (se 9))) from rfl] at g9;obtain ⟨a9,h9⟩:∃a,a=se 9:=⟨_,rfl⟩;have H9:=ZA h9;rw[←h9] at g9;clear h9;go_wp2_with (first
      | (refine store_new rfl 33 _ _ rfl _ _ rfl (X.map u8v) rfl HSX.o HZX.o (u8_ones X) ?_)
      | (refine wpList_runG rfl (run_ldA _ rfl w6.heap.size 0 rfl (X.map u8v) Tryz.underlying33 rfl HSX.o HCX.o) ?_)
      | (refine wpList_runG rfl (run_ldA _ rfl p 2 rfl (R.map u8v) Tryz.underlying33 rfl HSR.o HCR.o) ?_)
      | (refine wpList_runG rfl (run_val (run_neqH _ rfl X R rfl rfl HX32.o HR32.o) (congrArg Value.bool hne)) ?_))
     go_quiet (fail);go_wp2_with fail;go_ret2;exact ⟨xk,true,HRF.o,HWA.o.st.ext ((Upd.refl _ _).drewN _),HWA.o.up.thenExt ((Upd.refl _ _).drewN _),.inr ⟨HXE.o▸HXR.o,by rw[H9.o];rfl⟩⟩
theorem sw_create0(E:Env B se w)(H:StAt w b mb tv ⟨[],[],0,0,0,false⟩)(hB:B≤b)(hM:B≤mb):
 Calls Tryz.prog 19 #[.pointer (some ⟨b,0,none⟩),.string (str oL)] w fun e w'=> ∃wb x,e= .returned (.tuple #[.pointer (some ⟨wb,0,none⟩),.nilIface])∧SW B w' b mb wb tv x [] false∧Live x []∧x.nw=1∧x.nr=0∧Upd (two b mb) w w'∧w.heap.size≤wb:=by
 have hp:StD.put ⟨[],[],0,0,0,false⟩ (str headB) (str (ckptB oL 0 emptyH))=(⟨[(str headB,str (ckptB oL 0 emptyH))],[],0,0,1,false⟩,none):=by have h9:=put_fine (x:=⟨[],[],0,0,0,false⟩) rfl (p:=(str headB,str (ckptB oL 0 emptyH))) (show 1≤(str headB).size∧(str headB).size≤256 by decide) (show (0:Int)≠((0:Nat):Int)+1 by decide) (show (0:Int)≠ -(((0:Nat):Int)+1) by decide);exact h9
 refine (create_ok E H hB hM oL name_log (by decide) (by decide) (has_none _ _ _ _ _) (by decide) emptyH rfl).mono ?_;rintro e w' ⟨h1,h2,h3⟩;rw[hp] at h1 h3;obtain ⟨wb,rfl,hw,hlo⟩:=h3;have hsz:=E.g.size;exact ⟨wb,_,rfl,⟨h1,⟨hB,hM,Nat.le_trans hsz hlo⟩,.slice none 0 0,[],hw,⟨World.ownsRow_nil _ _ _ _,fun k=> World.ownsRow_nil _ _ _ _⟩⟩,⟨holds_nil oL emptyH rfl,rfl,rfl,rfl,Nat.le_refl _⟩,rfl,rfl,h2,hlo⟩
def lsC:List (List UInt8):= [[97],[98],[99]]
theorem lsC_cells(w:World):CellsAt (w.alloc (.cells #[.string ⟨#[97]⟩,.string ⟨#[98]⟩,.string ⟨#[99]⟩] 9)) (some ⟨w.heap.size,0,none⟩) (strC lsC):=fun j v hv=> by
 refine ⟨_,rfl,?_⟩;have h:=cell_of_blk (blk_alloc w (.cells #[.string ⟨#[97]⟩,.string ⟨#[98]⟩,.string ⟨#[99]⟩] 9)) j;rw[Addr.add_lit,Nat.zero_add,h];rcases j with _ | _ | _ | j
 ·exact hv
 ·exact hv
 ·exact hv
 ·simp[strC,lsC] at hv
theorem small_any(E:Env B se w):Calls Tryz.prog 8 #[] w fun e w'=> ∃b mb tv x,e= .returned (.pointer (some ⟨b,0,none⟩))∧StAt w' b mb tv x∧Live x lsC∧(x.nr=0∧x.nw≤100)∧w.heap.size≤b∧w.heap.size≤mb∧Ext w w':=by
 have CN:=new_ok w none [] 0 0 (RdsAt.nil _ _) (by decide) (by decide);have HE:=ZA E;have HB:=ZA E.g.size;clear E;go_enter Tryz.func8,Tryz.ntmps8;go_wp2_with fail;refine CN.mono ?_;rintro e w1 ⟨b,mb,tv,rfl,hst,hb,hm,hx1⟩;have HX1:=ZA hx1;have HBM:=ZA (And.intro hb hm);have CC:=sw_create0 (HE.o.ext hx1) hst (Nat.le_trans HB.o hb) (Nat.le_trans HB.o hm);rw[show str oL=⟨#[108,111,103]⟩ from rfl] at CC;clear CN hst hb hm hx1;go_wp2_with fail;refine CC.mono ?_;rintro e w2 ⟨wb,x,rfl,hsw,hlv,hnw,hnr,hu,hwb⟩;have HSW:=ZA hsw;have HX2:Hid (Ext w w2):=ZA (HX1.o.then hu (fun g hg e=> by have:=HBM.o;rcases e with e | e <;> omega));have HWB:Hid (w.heap.size≤wb):=ZA (Nat.le_trans HX1.o.size hwb);have HL2:=ZA (And.intro hlv (And.intro hnw hnr));have X3:=(Upd.refl none' w2).alloc (.cells #[.string ⟨#[97]⟩,.string ⟨#[98]⟩,.string ⟨#[99]⟩] 9);have HLT:Hid (b < w2.heap.size∧mb < w2.heap.size∧wb < w2.heap.size):=ZA (by obtain ⟨ev,vs,hw, -⟩:=hsw.wr;obtain ⟨es,c,hm⟩:=hsw.st.tex.blk;exact ⟨lt_of_blk hsw.st.blk,lt_of_blk hm,lt_of_blk hw.blk⟩)
 have CA:=sw_append (ls:=lsC) (HE.o.ext (HX2.o.trans X3)) (hsw.ext X3) hlv (some ⟨w2.heap.size,0,none⟩) 3 (lsC_cells w2) (.inr ⟨_,_,rfl⟩) (fun ad had=> by obtain rfl:=Option.some.inj had;have h:=HLT.o;refine ⟨?_,?_,?_⟩ <;> (show w2.heap.size≠_;omega)) (by decide) (by decide) (by decide) (by rw[hnw];decide)
 change Calls _ _ #[_,.slice _ 3 _] _ _ at CA;have HX3:=ZA (HX2.o.trans X3);rw[List.nil_append] at CA;have HSR:=ZA (ck_size35 oL lsC.length (mthP (leafHs lsC)) (root_len lsC));have HCL:=ZA (ck_len oL lsC.length (mthP (leafHs lsC)) (root_len lsC));clear CC hsw hlv hnw hnr hu hwb X3;go_wp2_with fail;refine CA.mono ?_;rintro e w4 ⟨x',rfl,hsw,hlv,hnw,hnr,hu⟩;have HX4:Hid (Ext w w4):=ZA (HX3.o.then hu (fun g hg e=> by have h1:=HBM.o;have h2:=HWB.o;rcases e with e | e | e <;> omega));have HF:=ZA (And.intro hsw.st (And.intro hlv (And.intro (hnr.trans HL2.o.2.2) (show x'.nw≤100 by rw[hnw,HL2.o.2.1];decide))));clear CA hsw hlv hnw hnr hu;go_wp2_with (refine store_new rfl 36 _ _ rfl _ _ rfl (ckC oL lsC.length (mthP (leafHs lsC))) rfl HSR.o (by rw[HCL.o];rfl) (ck_ones _ _ _) ?_);go_ret;have X5:=(Upd.refl none' w4).alloc (.cells (ckC oL lsC.length (mthP (leafHs lsC))).toArray 36);exact ⟨b,mb,tv,x',rfl,HF.o.1.ext X5,HF.o.2.1,HF.o.2.2,HBM.o.1,HBM.o.2,HX4.o.trans X5⟩
theorem rdout_nil{x':StD}{K:Nat}{ok:Bool}(h:RdOut x K x' ok)(h0:x.rs= []):ok=true∧x'=x.on K:=by
 obtain ⟨j,_,h2⟩:=h;cases ok with
 | true=>
  simp only[if_true] at h2;exact ⟨rfl,h2.2⟩
 | false=>
  simp only[Bool.false_eq_true,if_false] at h2;obtain ⟨_,h3,_⟩:=h2;unfold StD.rd StD.on at h3;rw[h0] at h3;simp at h3
theorem ck_cells{g:Nat}(hR:R.length=32)(h:w.heap[g]? =some (.cells (ckC oL n R).toArray 36 (0,0))):w.cell? ⟨g,0,none⟩=some (.string (str oL))∧w.cell? ⟨g,1,none⟩=some (.int .u64 n)∧w.cell? ⟨g,34,none⟩=some (.slice none 0 0)∧∀t u,(R.map u8v)[t]? =some u→w.cell? ⟨g,2+t,none⟩=some u:=by refine ⟨cell_of_blk h 0,cell_of_blk h 1,?_,ck_rootC h⟩;rw[cell_of_blk h 34];unfold ckC;simp[hR]
end Go.Proofs.YtjnjpgdoncbahaaGreatDoor
