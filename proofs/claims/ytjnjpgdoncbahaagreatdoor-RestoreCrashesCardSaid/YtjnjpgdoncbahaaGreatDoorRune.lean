/- text.control and text.blank by contracts. text.Name by contract. -/
import Derived.Test.YtjnjpgdoncbahaaGreatDoorNameP
import Derived.Test.YtjnjpgdoncbahaaGreatDoorGrW
import Derived.Test.YtjnjpgdoncbahaaGreatDoorCode
import Derived.Test.YtjnjpgdoncbahaaGreatDoorShelf
import Derived.Lib.TrimUEq
namespace Go.Proofs.YtjnjpgdoncbahaaGreatDoor
open Go.RowKit Go.Lib
set_option maxRecDepth 20000
set_option maxHeartbeats 4000000
variable {a:Act}{o:Oper}{w:World}{x:Operand}
theorem control_any(r:Nat)(hr:r≤1114111)(w:World):Calls Tryz.prog 155 #[.int .i32 r] w fun e w'=> e= .returned (.bool (ctlR r))∧w=w':=by
 by_cases h1:r < 32
 ·have e:ctlR r=true:=by simp[ctlR];omega
  have d1:decide ((r:Int) < 32)=true:=by simp;omega
  have d1':(r:Int) < 32:=by omega
  rw[e];go_enter Tryz.func155,Tryz.ntmps155;go_wp2_with fail;go_ret;exact ⟨rfl,rfl⟩
 ·have d1:decide ((r:Int) < 32)=false:=by simp;omega
  have d1':¬(r:Int) < 32:=by omega
  by_cases h2:127≤r
  ·have d2':(127:Int)≤r:=by omega
   by_cases h3:r≤159
   ·have d3':(r:Int)≤159:=by omega
    have e:ctlR r=true:=by simp[ctlR];omega
    rw[e];go_enter Tryz.func155,Tryz.ntmps155;go_wp2_with fail;go_ret;exact ⟨rfl,rfl⟩
   ·have d3':¬(r:Int)≤159:=by omega
    have e:ctlR r=false:=by simp[ctlR];omega
    rw[e];go_enter Tryz.func155,Tryz.ntmps155;go_wp2_with fail;go_ret;exact ⟨rfl,rfl⟩
  ·have d2':¬(127:Int)≤r:=by omega
   have e:ctlR r=false:=by simp[ctlR];omega
   rw[e];go_enter Tryz.func155,Tryz.ntmps155;go_wp2_with fail;go_ret;exact ⟨rfl,rfl⟩
def blankT:List (Nat×Nat):= [(32,32),(133,133),(160,160),(5760,5760),(8192,8202),(8232,8233),(8239,8239),(8287,8287),(12288,12288)]
def inB(p:Nat×Nat)(r:Nat):Bool:=decide (p.1≤r∧r≤p.2)
theorem blank_eq(r:Nat):blankR r=blankT.any (fun p=> inB p r):=by rw[Bool.eq_iff_iff];simp only[blankR,blankT,inB,List.any_cons,List.any_nil,Bool.or_eq_true,decide_eq_true_eq,Bool.false_eq_true,or_false];omega
def blankC:List Value:= [.int .i32 32,.int .i32 32,.int .i32 133,.int .i32 133,.int .i32 160,.int .i32 160,.int .i32 5760,.int .i32 5760,.int .i32 8192,.int .i32 8202,.int .i32 8232,.int .i32 8233,.int .i32 8239,.int .i32 8239,.int .i32 8287,.int .i32 8287,.int .i32 12288,.int .i32 12288]
def BlankTab(w:World):Prop:=∀j v,blankC[j]? =some v→w.cell? ⟨19,0+j,none⟩=some v
theorem BlankTab.ext{w':World}(h:BlankTab w)(u:Ext w w'):BlankTab w':=fun j v hv=> Ext.cellv u (h j v hv)
def BkRel(r:Nat)(w:World)(iv:Value)(wr:World):Prop:=∃k:Nat,k≤9∧iv= .int .i64 k∧(blankT.take k).any (fun p=> inB p r)=false∧Ext w wr
theorem blank_at(k:Nat)(hk:k < 9):blankC.toArray.extract (k*2) (k*2+2)=#[.int .i32 ((blankT.getD k (0,0)).1:Nat),.int .i32 ((blankT.getD k (0,0)).2:Nat)]:=by
 have:k=0∨k=1∨k=2∨k=3∨k=4∨k=5∨k=6∨k=7∨k=8:=by omega
 rcases this with rfl | rfl | rfl | rfl | rfl | rfl | rfl | rfl | rfl <;> rfl
theorem size_blanks:(Tryz.prog.info? 364).map (·.size)=some blankC.length:=by kernel_rfl
theorem blank_any(r:Nat)(_hr:r≤1114111)(w:World)(hT:BlankTab w):Calls Tryz.prog 156 #[.int .i32 r] w fun e w'=> e= .returned (.bool (blankR r))∧Ext w w':=by
 have HT:=ZA hT;have HE:=ZA (blank_eq r);clear hT;generalize blankR r=ans at*;go_enter Tryz.func156,Tryz.ntmps156;go_wp2_with (refine wpList_loadAgg rfl 364 _ rfl 19 0 rfl blankC Tryz.underlying364 rfl size_blanks HT.o ?_);go_loopw [6] (fun iv wr=> BkRel r w iv wr) (fun iv _=> 9 - (RowKit.intOf iv).toNat);case atStart=> exact ⟨0,by omega,rfl,rfl,Upd.refl _ _⟩
 case round=>
  obtain ⟨k,hk,rfl,hany,hx⟩:=hrel;have HANY:=ZA hany;have HX:=ZA hx;clear hany hx;by_cases hk9:k < 9
  ·have hki:(k:Int) < 9:=by omega
   have hpl:k < blankT.length:=hk9;have HAT:=ZA (blank_at k hk9);have HTS:=ZA (show (blankT.take (k+1)).any (fun p=> inB p r)=inB (blankT.getD k (0,0)) r by rw[List.take_succ_eq_append_getElem hpl,List.any_append,HANY.o];simp[List.getD_eq_getElem?_getD,List.getElem?_eq_getElem hpl])
   have HIT:=ZA (show inB (blankT.getD k (0,0)) r=true→blankT.any (fun p=> inB p r)=true from fun h=> by rw[List.any_eq_true];exact ⟨blankT.getD k (0,0),by rw[List.getD_eq_getElem?_getD,List.getElem?_eq_getElem hpl];exact List.getElem_mem hpl,h⟩)
   generalize blankT.getD k (0,0)=p at*;obtain ⟨lo,hi⟩:=p;have HEQ:=ZA (congrArg (fun c=> Value.agg c) HAT.o);have HK9:=ZA hk9;clear hk9 hpl;have hk2:k+1≤9:=by omega
   by_cases h1:lo≤r
   ·have h1i:(lo:Int)≤r:=by omega
    by_cases h2:r≤hi
    ·have h2i:(r:Int)≤hi:=by omega
     have HF:=ZA (show ans=true by rw[HE.o];exact HIT.o (by simp[inB];omega));clear h1 h2 hk;go_wp2_with (refine wpList_run (v:= .agg #[.int .i32 (lo:Nat),.int .i32 (hi:Nat)]) rfl (run_val (run_arrAgg _ rfl blankC.toArray k 9 2 .i64 363 rfl rfl HK9.o Tryz.underlying364 Tryz.underlying363 rfl (by kernel_rfl)) HEQ.o) ?_);go_ret;exact ⟨by rw[HF.o];rfl,HX.o.alloc _⟩
    ·have h2i:¬(r:Int)≤hi:=by omega
     have HF:=ZA (show inB (lo,hi) r=false by simp[inB];omega);clear h1 h2 hk;go_wp2_with (refine wpList_run (v:= .agg #[.int .i32 (lo:Nat),.int .i32 (hi:Nat)]) rfl (run_val (run_arrAgg _ rfl blankC.toArray k 9 2 .i64 363 rfl rfl HK9.o Tryz.underlying364 Tryz.underlying363 rfl (by kernel_rfl)) HEQ.o) ?_);exact ⟨⟨k+1,by omega,rfl,by rw[HTS.o,HF.o],HX.o.alloc _⟩,by simp[RowKit.intOf];omega⟩
   ·have h1i:¬(lo:Int)≤r:=by omega
    have HF:=ZA (show inB (lo,hi) r=false by simp[inB];omega);clear h1 hk;go_wp2_with (refine wpList_run (v:= .agg #[.int .i32 (lo:Nat),.int .i32 (hi:Nat)]) rfl (run_val (run_arrAgg _ rfl blankC.toArray k 9 2 .i64 363 rfl rfl HK9.o Tryz.underlying364 Tryz.underlying363 rfl (by kernel_rfl)) HEQ.o) ?_);exact ⟨⟨k+1,by omega,rfl,by rw[HTS.o,HF.o],HX.o.alloc _⟩,by simp[RowKit.intOf];omega⟩
  ·have hki:¬(k:Int) < 9:=by omega
   have HF:=ZA (show ans=false by rw[HE.o,←HANY.o,List.take_of_length_le (by show 9≤k;omega)])
   clear hk hk9;go_wp2_with fail;go_ret;exact ⟨by rw[HF.o];rfl,HX.o⟩
def setObj'(w:World)(g:Nat)(o:Obj):World:={w with heap:=w.heap.setIfInBounds g o}
section
variable {P:Program}
theorem run_next_str(w:World)(g:Nat)(s:ByteArray)(pos:Nat)(ty:TypeId)(hg:w.heap[g]? =some (.stringIter s pos))(h:pos < s.size):
 (Instr.next (.pointer (some ⟨g,0,none⟩)) true ty).run P w= .ok (.tuple #[.bool true,.int .i64 pos,.int .i32 (Utf8.decode s pos).1]) (setObj' w g (.stringIter s (pos+(Utf8.decode s pos).2))):=by
 simp[Instr.next,getObj,setObj,Sem.run,hg,h,Result.andThen,goInt,setObj']
theorem run_next_stop(w:World)(g:Nat)(s:ByteArray)(pos:Nat)(ty:TypeId)(hg:w.heap[g]? =some (.stringIter s pos))(h:¬pos < s.size):
 (Instr.next (.pointer (some ⟨g,0,none⟩)) true ty).run P w= .ok (.tuple #[.bool false]) w:=by
 simp[Instr.next,getObj,Sem.run,hg,h]
theorem exec_next(w:World)(ho:o.op= .next x true)(g:Nat)(s:ByteArray)(pos:Nat)(hx:a.eval x= .pointer (some ⟨g,0,none⟩))(hg:w.heap[g]? =some (.stringIter s pos))(h:pos < s.size):
 (execOp a.eval o).run P w= .ok (.value (.tuple #[.bool true,.int .i64 pos,.int .i32 (Utf8.decode s pos).1])) (setObj' w g (.stringIter s (pos+(Utf8.decode s pos).2))):=by
 simp only[execOp,ho,hx,Sem.run_bind,run_next_str w g s pos _ hg h,Result.andThen_ok];rfl
theorem exec_stop(w:World)(ho:o.op= .next x true)(g:Nat)(s:ByteArray)(pos:Nat)(hx:a.eval x= .pointer (some ⟨g,0,none⟩))(hg:w.heap[g]? =some (.stringIter s pos))(h:¬pos < s.size):
 (execOp a.eval o).run P w= .ok (.value (.tuple #[.bool false])) w:=by
 simp only[execOp,ho,hx,Sem.run_bind,run_next_stop w g s pos _ hg h,Result.andThen_ok];rfl
end
theorem setObj_at(w:World)(g:Nat)(o:Obj)(h:g < w.heap.size):(setObj' w g o).heap[g]? =some o:=by simp[setObj',h]
theorem Upd.setObj{S:Nat→Prop}{w1:World}(h:Upd S w w1){g:Nat}(hg:w.heap.size≤g∨S g)(o:Obj):Upd S w (setObj' w1 g o):=
 ⟨h.os,h.tape,h.output,by have:=h.size;simp[setObj'];omega,fun k hk hn=> by
  have hne:g≠k:=fun e=> by subst e;exact hg.elim (fun h1=> by omega) hn
  simp only[setObj',Array.getElem?_setIfInBounds];rw[if_neg hne];exact h.block k hk hn⟩
def posOf(g:Nat)(w:World):Nat:=match w.heap[g]? with | some (.stringIter _ pos)=> pos | _=> 0
def NmRel(g:Nat)(s:List UInt8)(w2 wr:World):Prop:=∃pos:Nat,pos≤s.length∧wr.heap[g]? =some (.stringIter (str s) pos)∧goodB true (s.drop pos)=goodB true s∧Upd (one g) w2 wr
theorem name_any(w:World)(s:List UInt8)(hs:s.length≤1099511627776)(hB:BlankTab w)(hU:Lib.Utf8Tabs 17 18 w):Calls Tryz.prog 58 #[.string (str s)] w fun e w'=> e= .returned (.bool (nameB s))∧Ext w w':=by
 have hsz:(str s).size=s.length:=str_size s;by_cases h1:s.length < 1
 ·have h1i:(s.length:Int) < 1:=by omega
  have HF:=ZA (show nameB s=false by unfold nameB;rw[show decide (1≤s.length∧s.length≤64)=false by simp;omega];rfl);go_enter Tryz.func58,Tryz.ntmps58;go_wp2_with fail;go_ret;exact ⟨by rw[HF.o];rfl,Upd.refl _ _⟩
 ·have h1i:¬(s.length:Int) < 1:=by omega
  by_cases h2:64 < s.length
  ·have h2i:(64:Int) < s.length:=by omega
   have HF:=ZA (show nameB s=false by unfold nameB;rw[show decide (1≤s.length∧s.length≤64)=false by simp;omega];rfl);go_enter Tryz.func58,Tryz.ntmps58;go_wp2_with fail;go_ret;exact ⟨by rw[HF.o];rfl,Upd.refl _ _⟩
  ·have h2i:¬(64:Int) < s.length:=by omega
   have C:=Tryz.utf8_ValidString (str s) w (by rw[hsz];omega) hU;have HN:Hid (nameB s=(validD s && goodB true s)):=ZA (by unfold nameB;rw[show decide (1≤s.length∧s.length≤64)=true by simp;omega,clear_good];rfl)
   have HB:=ZA hB;have HS:=ZA (show s.length≤64 by omega);have HZ:=ZA hsz;have e1:(str s).data.toList=s:=by simp
   rw[e1] at C;clear hB hU h1 h2 hs;cases hv:validD s with
   | false=>
    rw[hv] at C HN;clear hv e1;go_enter Tryz.func58,Tryz.ntmps58;go_wp2_with fail;refine C.mono ?_;rintro e w1 ⟨rfl,hb1⟩;have HX:=ZA (Ext.of_below hb1);clear hb1 C;go_wp2_with fail;go_ret;exact ⟨by rw[HN.o];rfl,HX.o⟩
   | true=>
    rw[hv] at C HN;clear hv e1;go_enter Tryz.func58,Tryz.ntmps58;go_wp2_with fail;refine C.mono ?_;rintro e w1 ⟨rfl,hb1⟩;have HX:=ZA (Ext.of_below hb1);clear hb1 C;go_wp2_with fail;have HG:=ZA (World.iter_heap w1 (str s) 0);have HXI:Hid (Ext w (w1.iter (str s) 0)):=ZA (HX.o.alloc _);have HGL:=ZA (show w.heap.size≤w1.heap.size from HX.o.size);have HBI:=ZA (HB.o.ext HXI.o);generalize w1.iter (str s) 0=w2 at*;generalize w1.heap.size=g at*;go_loopw [] (fun wr=> NmRel g s w2 wr) (fun wr=> s.length - posOf g wr);case atStart=> exact ⟨0,Nat.zero_le _,HG.o,rfl,Upd.refl _ _⟩
    case round=>
     obtain ⟨pos,hp,hg,hgd,hu⟩:=hrel;have HGR:=ZA hg;have HGD:=ZA hgd;have HU:=ZA hu;have HPO:=ZA (show posOf g wr=pos by unfold posOf;rw[hg]);have HBR:Hid (BlankTab wr):=ZA (fun j v hv=> by have h1:=HBI.o j v hv;refine (Upd.cell HU.o (lt_of_cell h1) (fun e=> ?_)).trans h1;have e2:19=g:=e;have h3:=HG.o;rw[←e2] at h3;simp[World.cell?,h3] at h1)
     clear hg hgd hu;by_cases hlt:pos < s.length
     ·have hl2:pos < (str s).size:=by rw[HZ.o];exact hlt
      have HL2:=ZA hl2;have hne:s.drop pos≠ []:=fun e=> by have:=congrArg List.length e;rw[List.length_drop,List.length_nil] at this;omega
      have hdec:decodeL (s.drop pos)=Utf8.decode (str s) pos:=by have:=decodeL_drop (str s) pos;simpa using this
      have hstep:=goodB_step true (s.drop pos) hne;have hle:=decodeL_le (s.drop pos) hne;have hwd:=decodeL_width (s.drop pos);have hru:=decodeL_rune (s.drop pos);rw[hdec] at hstep hle hwd hru;rw[List.drop_drop] at hstep;rw[List.length_drop] at hle;generalize hD:Utf8.decode (str s) pos=d at*;obtain ⟨r,n⟩:=d;have HD:=ZA hD;have HST:=ZA hstep;have HRUN:=ZA (fun (o:Oper) (a:Act) (x:Operand) (ho:o.op= .next x true) (hx:a.eval x= .pointer (some ⟨g,0,none⟩))=> (show (execOp a.eval o).run Tryz.prog wr= .ok (.value (.tuple #[.bool true,.int .i64 pos,.int .i32 (r:Nat)])) (setObj' wr g (.stringIter (str s) (pos+n))) by have:=exec_next (P:=Tryz.prog) wr ho g (str s) pos hx HGR.o HL2.o;rw[HD.o] at this;exact this))
      have HG3:=ZA (setObj_at wr g (.stringIter (str s) (pos+n)) (lt_of_blk HGR.o));have HU3:=ZA (HU.o.setObj (g:=g) (.inr rfl) (.stringIter (str s) (pos+n)));have HB3:Hid (BlankTab (setObj' wr g (.stringIter (str s) (pos+n)))):=ZA (fun j v hv=> by have h1:=HBR.o j v hv;have h2:=(Upd.refl (one g) wr).setObj (g:=g) (.inr rfl) (.stringIter (str s) (pos+n));refine (Upd.cell h2 (lt_of_cell h1) (fun e=> ?_)).trans h1;have e2:19=g:=e;have h3:=HGR.o;rw[←e2] at h3;simp[World.cell?,h3] at h1)
      have C1:=control_any r hru (setObj' wr g (.stringIter (str s) (pos+n)));have C2:=blank_any r hru (setObj' wr g (.stringIter (str s) (pos+n))) HB3.o;generalize setObj' wr g (.stringIter (str s) (pos+n))=w3 at*;have HWD:=ZA hwd;have HLE:=ZA hle;clear hD hstep hdec hl2 hne hwd hle;cases hc:ctlR r with
      | true=>
       rw[hc] at C1;have HF:=ZA (show goodB true s=false by rw[←HGD.o,HST.o];simp[badR,hc]);clear hc;go_wp2_with (refine wpList_run rfl (HRUN.o _ _ _ rfl rfl) ?_);refine C1.mono ?_;rintro e w4 ⟨rfl,rfl⟩;clear C1 C2;go_wp2_with fail;go_ret;exact ⟨by rw[HN.o,HF.o];rfl,HXI.o.then HU3.o (fun b hb e=> by have e2:b=g:=e;have:=HGL.o;omega)⟩
      | false=>
       rw[hc] at C1;cases hb:blankR r with
       | true=>
        rw[hb] at C2;have HF:=ZA (show goodB true s=false by rw[←HGD.o,HST.o];simp[badR,hc,hb]);clear hc hb;go_wp2_with (refine wpList_run rfl (HRUN.o _ _ _ rfl rfl) ?_);refine C1.mono ?_;rintro e w4 ⟨rfl,rfl⟩;clear C1;go_wp2_with fail;refine C2.mono ?_;rintro e w4 ⟨rfl,hx4⟩;have HX4:=ZA (HU3.o.thenExt hx4);clear hx4 C2;go_wp2_with fail;go_ret;exact ⟨by rw[HN.o,HF.o];rfl,HXI.o.then HX4.o (fun b hb e=> by have e2:b=g:=e;have:=HGL.o;omega)⟩
       | false=>
        rw[hb] at C2;by_cases h43:r=43
        ·have h43b:((r:Int)==43)=true:=by simp;omega
         have HF:=ZA (show goodB true s=false by rw[←HGD.o,HST.o];simp[badR,h43]);clear hc hb h43;go_wp2_with (refine wpList_run rfl (HRUN.o _ _ _ rfl rfl) ?_);refine C1.mono ?_;rintro e w4 ⟨rfl,rfl⟩;clear C1;go_wp2_with fail;refine C2.mono ?_;rintro e w4 ⟨rfl,hx4⟩;have HX4:=ZA (HU3.o.thenExt hx4);clear hx4 C2;go_wp2_with fail;go_ret;exact ⟨by rw[HN.o,HF.o];rfl,HXI.o.then HX4.o (fun b hb e=> by have e2:b=g:=e;have:=HGL.o;omega)⟩
        ·have h43b:((r:Int)==43)=false:=by simp;omega
         have HF:=ZA (show goodB true (s.drop (pos+n))=goodB true s by rw[←HGD.o,HST.o];simp[badR,hc,hb,h43]);clear hc hb h43;go_wp2_with (refine wpList_run rfl (HRUN.o _ _ _ rfl rfl) ?_);refine C1.mono ?_;rintro e w4 ⟨rfl,rfl⟩;clear C1;go_wp2_with fail;refine C2.mono ?_;rintro e w4 ⟨rfl,hx4⟩;have HX4:=ZA (HU3.o.thenExt hx4);have HG4:=ZA (Ext.blk hx4 HG3.o);clear hx4 C2;go_wp2_with fail;have hw1:=HWD.o;have hw2:=HLE.o;exact ⟨⟨pos+n,by omega,HG4.o,HF.o,HX4.o⟩,by
          rw[HPO.o];have:posOf g w4=pos+n:=by unfold posOf;rw[HG4.o]
          rw[this];omega⟩
     ·have hl2:¬pos < (str s).size:=by rw[HZ.o];exact hlt
      have HL2:=ZA hl2;have HF:=ZA (show goodB true s=true by rw[←HGD.o,List.drop_of_length_le (by omega)];rfl)
      clear hl2;go_wp2_with (refine wpList_run rfl (exec_stop wr rfl g (str s) pos rfl HGR.o HL2.o) ?_);go_ret;exact ⟨by rw[HN.o,HF.o];rfl,HXI.o.then HU.o (fun b hb e=> by have e2:b=g:=e;have:=HGL.o;omega)⟩
end Go.Proofs.YtjnjpgdoncbahaaGreatDoor
