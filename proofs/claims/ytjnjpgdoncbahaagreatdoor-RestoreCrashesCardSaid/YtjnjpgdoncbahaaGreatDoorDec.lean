/- cartularyref03.Decimal: the decimal numeral of every uint64 (no further condition). text.Decimal, writer.Leaf and the document's by contracts (out of the text Leafname, without its row). checkpoint.Format of a checkpoint that may be, without further lines, by contract. tile.may, tile.Path by contracts. -/
import Derived.Test.YtjnjpgdoncbahaaGreatDoorUint
import Derived.Test.YtjnjpgdoncbahaaGreatDoorCode
import Derived.Test.YtjnjpgdoncbahaaGreatDoorApp
import Derived.Deep.Cut
import Derived.Test.YtjnjpgdoncbahaaGreatDoorGrW
import Derived.Test.YtjnjpgdoncbahaaGreatDoorRune
import Derived.Test.YtjnjpgdoncbahaaGreatDoorTyped3
import Derived.Test.YtjnjpgdoncbahaaGreatDoorAgg
import Derived.Test.YtjnjpgdoncbahaaGreatDoorTree
import Derived.Test.YtjnjpgdoncbahaaGreatDoorTwo
namespace Go.Proofs.YtjnjpgdoncbahaaGreatDoor
open Go.RowKit Go.Lib
set_option maxRecDepth 20000
set_option maxHeartbeats 8000000
variable {a:Act}{g:Nat}{o:Oper}{t:TypeId}{w:World}{x:Operand}
theorem Ext.grow(w:World)(k:Nat)(os:Array Obj):Ext w (Sort.grow (w.drewN k) os):=
 Ext.of_below (by have:Below w.heap.size (w.drewN k) (Sort.grow (w.drewN k) os):=⟨rfl,rfl,rfl,by simp[Sort.grow,World.drewN],fun b hb=> by simp[Sort.grow,World.drewN,Array.getElem?_append,hb]⟩;exact ⟨rfl,rfl,rfl,this.size,fun b hb=> this.block b hb⟩)
def leafB:List UInt8:= [108,101,97,102,47]
theorem dec_len(u:Nat)(h:u < 18446744073709551616):(Lib.decDigits u).length≤20:=by
 rw[Lib.decDigits_length];by_cases h1:1≤u
 ·have:=Lib.numDigits_eq u h1 h;split at this <;> omega
 ·rw[Lib.nDigits_small (by omega)];omega
theorem decimal_any(u:Nat)(hu:u < 18446744073709551616)(w:World)(ht:Lib.TabIs Tryz.prog w "internal/strconv.uint64pow10" .u64 Lib.pow10Tab):
 Calls Tryz.prog 146 #[.int .u64 u] w fun e w'=> e= .returned (.string (str (Lib.decDigits u)))∧Ext w w':=by
 have C:=fmtu u hu w ht;clear ht;go_enter Tryz.func146,Tryz.ntmps146;go_wp2_with fail;refine C.mono ?_;rintro e w1 ⟨rfl,k,os,rfl⟩;go_wp2_with fail;go_ret;exact ⟨rfl,Ext.grow w k os⟩
theorem leaf_any(u:Nat)(hu:u < 18446744073709551616)(w:World)(ht:Lib.TabIs Tryz.prog w "internal/strconv.uint64pow10" .u64 Lib.pow10Tab):
 Calls Tryz.prog 47 #[.int .u64 u] w fun e w'=> e= .returned (.string (str leafB++str (Lib.decDigits u)))∧Ext w w':=by
 have C:=decimal_any u hu w ht;have hl:¬9223372036854775807 < 5+(Lib.decDigits u).length:=by have:=dec_len u hu;omega
 clear ht;go_enter Tryz.func47,Tryz.ntmps47;go_wp2_with fail;refine C.mono ?_;rintro e w1 ⟨rfl,hU⟩;go_wp2_with fail;go_ret;exact ⟨rfl,hU⟩
def ckptB(o:List UInt8)(n:Nat)(root:HB):List UInt8:=o++ [10]++Lib.decDigits n++ [10]++b64 root++ [10]
def ckC(o:List UInt8)(n:Nat)(root:HB):List Value:= .string (str o):: .int .u64 n::(root.map u8v++ [.slice none 0 0])
abbrev ckV(o:List UInt8)(n:Nat)(root:HB):Value:= .agg (ckC o n root).toArray
theorem ck_get(o:List UInt8)(n:Nat)(root:HB)(hr:root.length=32):(ckC o n root).toArray[34]? =some (.slice none 0 0):=by simp[ckC,hr]
theorem ck_root(o:List UInt8)(n:Nat)(root:HB)(j:Nat)(hj:j < root.length):(ckC o n root).toArray[2+j]? =some (u8v root[j]):=by simp only[ckC,List.getElem?_toArray];rw[show 2+j=j+1+1 by omega,List.getElem?_cons_succ,List.getElem?_cons_succ,List.getElem?_append_left (by simpa using hj)];simp[hj]
theorem run_app_nil{P:Program}(w:World)(t ty e:TypeId)(i:TypeInfo)(ht:P.underlying t=some (.slice e))(hi:P.info? e=some i)(g n c:Nat)(hnc:n≤c)(_hg:∃cs te f,w.heap[g]? =some (.cells cs te f)):
 (Builtin.append_ #[t,t] ty #[.slice (some ⟨g,0,none⟩) n c,.slice none 0 0]).run P w= .ok (.slice (some ⟨g,0,none⟩) n c) w:=by
 simp[Builtin.append_,run_underlying ht,sizeOf,typeInfo,hi,Builtin.lenOf,Builtin.firstCells,loadCells,hnc,storeCells]
theorem run_build3{P:Program}(w:World)(t e:TypeId)(ie:TypeInfo)(hu:P.underlying t=some (.slice e))(hq:P.info? e=some ie)(hz:ie.zero=some (.string ⟨#[]⟩))(hs:ie.size=1)(a b c:ByteArray):
 (Instr.buildSlice t 3 #[(0,.string a),(1,.string b),(2,.string c)]).run P w= .ok (.slice (some ⟨w.heap.size,0,none⟩) 3 3) (w.alloc (.cells #[.string a,.string b,.string c] e)):=by
 cases ie
 simp only at hs hz;subst hs;refine run_buildSlice (P:=P) w t e 3 _ #[.string a,.string b,.string c] _ (.string ⟨#[]⟩) hu hq hz (by simp) (by simp) ?_;simp[Instr.fill,Value.cells,Array.range];rfl
theorem run_root{o:List UInt8}{n:Nat}{root:HB}(hr:root.length=32)(hq:w.heap[g]? =some (.cells (ckC o n root).toArray 36 (0,0))):
 (convert 50 9 (.slice (some ⟨g,2,none⟩) 32 32)).run Tryz.prog w= .ok (.string (str root)) w:=by
 have e:=run_convert_bytes_arg (P:=Tryz.prog) w 50 5 Tryz.underlying50 Tryz.underlying5 g 2 32 32 (root.map fun c=> (c.toNat:Int)) (by simp[hr]) (fun i hi=> by
  have hi2:i < root.length:=by rw[hr];exact hi
  rw[cell_of_blk hq,ck_root o n root i hi2];simp[hi2]) 9 Tryz.underlying9
 rw[e,strOfNums_str]
theorem run_slArr(w:World)(g off:Nat):(Instr.sliceAt 33 (.pointer (some ⟨g,off,none⟩)) none none none).run Tryz.prog w= .ok (.slice (some ⟨g,off,none⟩) 32 32) w:=by obtain ⟨i0,hi0,hz0,hz1,hz2⟩:=info_parts info_u8;simp[Instr.sliceAt,run_underlying Tryz.underlying33,Instr.sureAddr,Instr.sliceBounds,sizeOf,typeInfo,hi0,Addr.add]
theorem body_dec:hasBody Tryz.prog 146=true:=by kernel_rfl
theorem body_b64:hasBody Tryz.prog 235=true:=by kernel_rfl
theorem info_strF:(Tryz.prog.info? 9).map (fun i=> (i.zero,i.size,i.bytes))=some (some (.string ⟨#[]⟩),1,16):=by kernel_rfl
def FmRel(w2:World)(iv:Value)(wr:World):Prop:=iv= .int .i64 0∧wr=w2
def P3(a b c:ByteArray)(v:Value)(w:World):Prop:=∃g,v= .slice (some ⟨g,0,none⟩) 3 3∧w.heap[g]? =some (.cells #[.string a,.string b,.string c] 9 (0,0))
theorem p3_lasts(a b c:ByteArray):Lasts (P3 a b c):=fun _ _ _ ⟨g,h1,h2⟩ u=> ⟨g,h1,Ext.blk u h2⟩
theorem format_any(w:World)(o:List UInt8)(n:Nat)(root:HB)(hr:root.length=32)(ho:nameB o=true)(hol:o.length≤64)(hn:n≤1048576)(hB:BlankTab w)(hU:Lib.Utf8Tabs 17 18 w)(ht:Tab10 w):
 Calls Tryz.prog 159 #[ckV o n root] w fun e w'=> e= .returned (.tuple #[.string (str (ckptB o n root)),.nilIface])∧Ext w w':=by
 have X0:=(Upd.refl none' w).alloc (.cells (ckC o n root).toArray 36);have HQ:=ZA (blk_alloc w (.cells (ckC o n root).toArray 36));have HX:=ZA X0;have HRL:=ZA hr;have HOL:=ZA hol;have C:=name_any (w.alloc (.cells (ckC o n root).toArray 36)) o (by omega) (hB.ext X0) (Utf8Tabs_below hU (Ext.below X0 (Nat.le_refl _)));rw[ho] at C;have X0':=X0;generalize hW:w.alloc (.cells (ckC o n root).toArray 36)=W at*;have c0:W.cell? ⟨w.heap.size,0,none⟩=some (.string (str o)):=cell_of_blk HQ.o 0;have c1:W.cell? ⟨w.heap.size,1,none⟩=some (.int .u64 n):=cell_of_blk HQ.o 1;have c3:W.cell? ⟨w.heap.size,34,none⟩=some (.slice none 0 0):=(cell_of_blk HQ.o 34).trans (ck_get o n root hr);have HC0:=ZA c0;have HC1:=ZA c1;have HC3:=ZA c3;have hni:¬(1048576:Int) < n:=by omega
 have HHN:=ZA hn;have HT:=ZA (ht.ext X0');clear hr ho hol hn hB hU ht;go_enter Tryz.func159,Tryz.ntmps159;go_wp2_with fail;refine C.mono ?_;rintro e w1 ⟨rfl,hx1⟩;have HX1:=ZA (HX.o.trans hx1);have d1:w1.cell? ⟨w.heap.size,1,none⟩=some (.int .u64 n):=Ext.cellv hx1 HC1.o;have d3:w1.cell? ⟨w.heap.size,34,none⟩=some (.slice none 0 0):=Ext.cellv hx1 HC3.o;have HQ1:=ZA (Ext.blk hx1 HQ.o);have HT1:=ZA (HT.o.ext hx1);have HD0:=ZA (Ext.cellv hx1 HC0.o);have HD1:=ZA d1;have HD3:=ZA d3;clear hx1 C c0 c1 c3 X0 X0';go_wp2_with fail;go_loopw [15] (fun iv wr=> FmRel w1 iv wr) (fun _ _=> 0);case atStart=> exact ⟨rfl,rfl⟩
 case round=>
  obtain ⟨rfl,hw⟩:=hrel;subst hw;go_wp2_with fail;refine region_slots3 [.inl (.pointer (some ⟨w.heap.size,0,none⟩)),.inl (.string (str o)),.inl (.pointer (some ⟨w.heap.size,1,none⟩)),.inl (.int .u64 n),.inl (.string (str (Lib.decDigits n))),.inl (.pointer (some ⟨w.heap.size,2,none⟩)),.inl (.slice (some ⟨w.heap.size,2,none⟩) 32 32),.inl (.string (str root)),.inl (.string (str (b64 root))),.inr (P3 (str o) (str (Lib.decDigits n)) (str (b64 root))),.inl (.pointer (some ⟨w.heap.size,34,none⟩)),.inl (.slice none 0 0),.inr (P3 (str o) (str (Lib.decDigits n)) (str (b64 root))),.inr (P3 (str o) (str (Lib.decDigits n)) (str (b64 root)))] (by kernel_rfl) ?_ (by rfl) (by rfl) ?_ ?_
  ·intro p hp;simp only[List.mem_cons,reduceCtorEq,Sum.inr.injEq,false_or,or_false,List.not_mem_nil,or_self] at hp;subst hp;exact p3_lasts _ _ _
  rotate_left
  ·intro v' w' X hv;obtain ⟨g,h6,hg⟩:=(slot_prop3 (hv 13 _ 6 rfl rfl) rfl:P3 _ _ _ (v' 13) w');have HXF:=ZA (HX1.o.trans X);have HG:=ZA hg;clear X hv;refine q_norm (by simp only[putAll];rewrite[h6];go_simp;all_goals exact rfl) ?_;clear h6 hg;have CJ:=Tryz.strings_Join g 0 3 [str o,str (Lib.decDigits n),str (b64 root)] ⟨#[10]⟩ w' (fun j x hx=> by
    have hj:j=0∨j=1∨j=2:=by have:=(List.getElem?_eq_some_iff.1 hx).1;simp at this;omega
    rw[cell_of_blk HG.o];rcases hj with rfl | rfl | rfl <;> simp at hx⊢ <;> exact hx) (lt_of_blk HG.o) (by simp) (by simp) (by have h1:=dec_len n (by have:=HHN.o;omega);have h2:=b64_len root;have h3:=HOL.o;have h4:=HRL.o;simp[Lib.join];omega)
   have HJ:Lib.join (([str o,str (Lib.decDigits n),str (b64 root)]:List ByteArray).map (·.data.toList)) (⟨#[10]⟩:ByteArray).data.toList=o++ [10]++Lib.decDigits n++ [10]++b64 root:=by simp[Lib.join,List.intercalate]
   rw[HJ] at CJ;obtain ⟨J,hJ⟩:∃J,J=o++ [10]++Lib.decDigits n++ [10]++b64 root:=⟨_,rfl⟩;have HF:=ZA (show str J++⟨#[10]⟩=str (ckptB o n root) by rw[hJ];apply ByteArray.ext;simp[ckptB])
   have hJl:¬9223372036854775807 < J.length+1:=by have h1:=dec_len n (by have:=HHN.o;omega);have h2:=b64_len root;have h3:=HOL.o;have h4:=HRL.o;rw[hJ];simp only[List.length_append,List.length_singleton];omega
   have CJ2:Calls Tryz.prog 236 #[.slice (some ⟨g,0,none⟩) 3 3,.string ⟨#[10]⟩] w' fun e w''=> e= .returned (.string (str J))∧Below w'.heap.size w' w'':=by rw[hJ];exact CJ
   clear CJ HJ hJ;go_wp2_with fail;refine CJ2.mono ?_;rintro e w8 ⟨rfl,hb8⟩;have HXG:=ZA (HXF.o.trans (Ext.of_below hb8));clear hb8 CJ2;go_wp2_with fail;go_ret2;exact ⟨by rw[←HF.o];rfl,HXG.o⟩
  refine ⟨ty_fieldAddr3 _ _ (gd_none3 rfl) rfl rfl (kn_old3 1 rfl rfl) (fun w1=> by kernel_rfl),?_⟩;refine ⟨ty_load13 ⟨w.heap.size,0,none⟩ _ (gd_none3 rfl) rfl rfl (kn_new3 0 rfl rfl rfl rfl) Tryz.underlying9 rfl (fun w7 hX=> Ext.cellv hX HD0.o),?_⟩;refine ⟨ty_fieldAddr3 _ _ (gd_none3 rfl) rfl rfl (kn_old3 1 rfl rfl) (fun w1=> by kernel_rfl),?_⟩;refine ⟨ty_load13 ⟨w.heap.size,1,none⟩ _ (gd_none3 rfl) rfl rfl (kn_new3 2 rfl rfl rfl rfl) Tryz.underlying31 rfl (fun w7 hX=> Ext.cellv hX HD1.o),?_⟩;refine ⟨ty_call13 146 _ _ _ (gd_none3 rfl) rfl body_dec (kn_new3 3 rfl rfl rfl rfl) (fun w7 hX=> known_call3 rfl (decimal_any n (by have:=HHN.o;omega) w7 (HT1.o.ext hX))),?_⟩;refine ⟨ty_fieldAddr3 _ _ (gd_none3 rfl) rfl rfl (kn_old3 1 rfl rfl) (fun w1=> by kernel_rfl),?_⟩;refine ⟨ty_val3 (gd_none3 rfl) rfl (fun a w7 hX hH hN=> ?_),?_⟩
  ·have h1:=(kn_new3 5 rfl rfl rfl rfl:Kn3 _ _ _ _ (.tmp 43) (.pointer (some ⟨w.heap.size,2,none⟩))) a w7 hH hN;simp only[execOp,h1,Option.map_none,Sem.run_bind,run_slArr w7,Result.andThen_ok];rfl
  refine ⟨ty_val3 (gd_none3 rfl) rfl (fun a w7 hX hH hN=> ?_),?_⟩
  ·have h1:=(kn_new3 6 rfl rfl rfl rfl:Kn3 _ _ _ _ (.tmp 44) (.slice (some ⟨w.heap.size,2,none⟩) 32 32)) a w7 hH hN;simp only[execOp,h1,Sem.run_bind,run_root HRL.o (Ext.blk hX HQ1.o),Result.andThen_ok];rfl
  refine ⟨ty_call13 235 _ _ _ (gd_none3 rfl) rfl body_b64 (kn_new3 7 rfl rfl rfl rfl) (fun w7 hX=> known_call3 rfl (base64_any w7 root (by rw[HRL.o];omega) (by rw[HRL.o]))),?_⟩;refine ⟨ty_run3 (gd_none3 rfl) (fun a w7 hX hH hN=> ?_),?_⟩
  ·have h1:=(kn_new3 1 rfl rfl rfl rfl:Kn3 _ _ _ _ (.tmp 39) (.string (str o))) a w7 hH hN;have h2:=(kn_new3 4 rfl rfl rfl rfl:Kn3 _ _ _ _ (.tmp 42) (.string (str (Lib.decDigits n)))) a w7 hH hN;have h3:=(kn_new3 8 rfl rfl rfl rfl:Kn3 _ _ _ _ (.tmp 46) (.string (str (b64 root)))) a w7 hH hN;obtain ⟨i0,hi0,hz0,hz1,hz2⟩:=info_parts info_strF;refine ⟨_,_,?_,(Upd.refl none' w7).alloc (.cells #[.string (str o),.string (str (Lib.decDigits n)),.string (str (b64 root))] 9),⟨w7.heap.size,rfl,blk_alloc _ _⟩⟩;simp only[execOp,List.map_toArray,List.map_cons,List.map_nil,h1,h2,h3,Sem.run_bind,run_build3 w7 _ _ i0 Tryz.underlying34 hi0 hz0 hz1,Result.andThen_ok];rfl
  refine ⟨ty_fieldAddr3 _ _ (gd_none3 rfl) rfl rfl (kn_old3 1 rfl rfl) (fun w1=> by kernel_rfl),?_⟩;refine ⟨ty_load13 ⟨w.heap.size,34,none⟩ _ (gd_none3 rfl) rfl rfl (kn_new3 10 rfl rfl rfl rfl) Tryz.underlying34 rfl (fun w7 hX=> Ext.cellv hX HD3.o),?_⟩;refine ⟨ty_run3 (gd_none3 rfl) (fun a w7 hX hH hN=> ?_),?_⟩
  ·obtain ⟨g,h1,hg⟩:=(new_prop3 9 hN rfl rfl rfl rfl:P3 _ _ _ (a.eval (.tmp 47)) w7);have h2:=(kn_new3 11 rfl rfl rfl rfl:Kn3 _ _ _ _ (.tmp 49) (.slice none 0 0)) a w7 hH hN;obtain ⟨i0,hi0,hz0,hz1,hz2⟩:=info_parts info_strF;refine ⟨.slice (some ⟨g,0,none⟩) 3 3,w7,?_,Upd.refl _ _,⟨g,rfl,hg⟩⟩;simp only[execOp,resolve,invoke,builtin,Sem.run_bind,Sem.run_pure,Result.andThen_ok,List.map_toArray,List.map_cons,List.map_nil,h1,h2,run_app_nil w7 _ _ _ i0 Tryz.underlying34 hi0 g 3 3 (by omega) ⟨_,_,_,hg⟩]
  refine ⟨ty_run3 (gd_none3 rfl) (fun a w7 hX hH hN=> ?_),trivial⟩
  ·obtain ⟨g,h1,hg⟩:=(new_prop3 12 hN rfl rfl rfl rfl:P3 _ _ _ (a.eval (.tmp 50)) w7);refine ⟨.slice (some ⟨g,0,none⟩) 3 3,w7,?_,Upd.refl _ _,⟨g,rfl,hg⟩⟩;simp only[execOp,h1,Sem.run_pure]
section
variable {P:Program}
theorem run_copyStrR(w:World)(dT sT ty e:TypeId)(i:TypeInfo)(hu:P.underlying dT=some (.slice e))(hi:P.info? e=some i)(_hs:i.size=1)(g off n c:Nat)(s:List UInt8)(cs:List Value)(te:TypeId)
 (hg:w.heap[g]? =some (.cells cs.toArray te (0,0))) (hle:s.length≤n) (hfit:off+s.length≤cs.length):
 (Builtin.copy_ #[dT,sT] ty #[.slice (some ⟨g,off,none⟩) n c,.string (str s)]).run P w= .ok (goInt s.length) (w.setRow g (over cs off (s.map u8v)).toArray):=by
 have hst:=run_storeCells_at P g off te (s.map u8v) 0 cs.toArray w hg (by simp;omega) (u8_ones s);simp only[Nat.add_zero] at hst;have hmin:Nat.min s.length n=s.length:=Nat.min_eq_left hle;have hsz:(str s).size=s.length:=str_size s;simp[Builtin.copy_,run_underlying hu,Builtin.lenOf,Builtin.firstCells,sizeOf,typeInfo,hi,hmin,hsz];rw[List.take_of_length_le (by simp)];simp only[List.length_map] at hst;rw[hst];simp[over,Result.andThen]
theorem wpList_copyStrR{ops:Array Oper}{rest:List Oper}{Q:Exit→Act→World→Prop}(hgd:o.guard=none)(d x:Operand)(dT sT:TypeId)
 (ho:o.op= .call {callee:= .builtin .copy,args:=#[d,x],argTypes:=#[dT,sT]}) (e:TypeId) (i:TypeInfo) (hu:P.underlying dT=some (.slice e)) (hi:P.info? e=some i) (hs:i.size=1) (g off n c:Nat) (s:List UInt8) (cs:List Value) (te:TypeId)
 (hd:a.eval d= .slice (some ⟨g,off,none⟩) n c) (hx:a.eval x= .string (str s)) (hg:w.heap[g]? =some (.cells cs.toArray te (0,0))) (hle:s.length≤n) (hfit:off+s.length≤cs.length)
 (h:wpList P ops Q rest (a.put o.dst (goInt s.length)) (w.setRow g (over cs off (s.map u8v)).toArray)):wpList P ops Q (o::rest) a w:=by
 refine wpList_plain hgd fun K hK=> ?_;have hr:=run_copyStrR (P:=P) w dT sT o.type e i hu hi hs g off n c s cs te hg hle hfit;unfold Oper.wp execOp;simp only[ho,resolve,invoke,builtin,Sem.run_bind,Sem.run_pure,Result.andThen_ok,List.map_toArray,List.map_cons,List.map_nil,hd,hx,hr];exact hK _ _ h
end
theorem str3{off:Nat}{l:List UInt8}{c:Nat}(hc:∀i (h:i < l.length),w.cell? ⟨g,off+i,none⟩=some (u8v l[i])):
 (convert 50 9 (.slice (some ⟨g,off,none⟩) l.length c)).run Tryz.prog w= .ok (.string (str l)) w:=by
 have e:=run_convert_bytes_arg (P:=Tryz.prog) w 50 5 Tryz.underlying50 Tryz.underlying5 g off l.length c (l.map fun c=> (c.toNat:Int)) (by simp) (fun i hi=> by rw[hc i hi];simp[hi]) 9 Tryz.underlying9
 rw[e,strOfNums_str]
theorem exec_conv{P:Program}(w:World){u:TypeId}(ho:o.op= .convert t u x)(v r:Value)(hx:a.eval x=v)(hr:(convert t u v).run P w= .ok r w):(execOp a.eval o).run P w= .ok (.value r) w:=by simp only[execOp,ho,hx,Sem.run_bind,hr,Result.andThen_ok];rfl
theorem run_sl3{P:Program}(w:World){e:TypeId}{h3 m3:Operand}(ho:o.op= .slice t x none (some h3) (some m3))(g off n c:Nat)(hx:a.eval x= .slice (some ⟨g,off,none⟩) n c)(hh:a.eval h3= .int .i64 3)(hm:a.eval m3= .int .i64 3)(hc:3≤c)(hu:P.underlying t=some (.slice e))(hs:(P.info? e).map (·.size)=some 1):
 (execOp a.eval o).run P w= .ok (.value (.slice (some ⟨g,off,none⟩) 3 3)) w:=by
 cases hq:P.info? e with
 | none=> simp[hq] at hs
 | some i=>
  have his:i.size=1:=by simpa[hq] using hs
  have hc2:(3:Int)≤c:=by omega
  simp[execOp,ho,hx,hh,hm,Instr.sliceAt,Instr.slice,Instr.sliceBounds,Instr.sliceBound,run_underlying hu,asIntOf,sizeOf,typeInfo,hq,hc2,Addr.add_lit]
theorem dec_pos(u:Nat):1≤(Lib.decDigits u).length:=by rw[Lib.decDigits_length];exact nDigits_pos u
theorem u8_size:(Tryz.prog.info? 5).map (·.size)=some 1:=by kernel_rfl
def slLen:Value→Nat
 | .slice _ n _=> n
 | _=> 0
def FlRel(g N:Nat)(w:World)(iv:Value)(wr:World):Prop:=
 ∃(j:Nat) (R:List Value),iv= .int .i64 j∧j≤N∧R.length=N - j∧wr.heap[g]? =some (.cells ((List.replicate j (48:UInt8)).map u8v++R).toArray 5 (0,0))∧Upd (one g) w wr
def GrRel(g:Nat)(P:List UInt8)(tot:List UInt8)(w5:World)(sv tv:Value)(wr:World):Prop:=
 ∃(off:Nat) (pre:List UInt8),off≤P.length∧sv= .slice (some ⟨g,off,none⟩) (P.length - off) (P.length - off)∧tv= .string (str pre)∧pre++grp (P.drop off)=tot∧pre.length≤60+2*off∧wr=w5
abbrev tileV(k i wd:Nat):Value:= .agg #[.int .u8 k,.int .u64 i,.int .i64 wd]
theorem tmay_any(w:World)(k i wd:Nat)(hk:k≤2)(hi:i≤65536)(h1:1≤wd)(h2:wd≤256):
 Calls Tryz.prog 145 #[tileV k i wd] w fun e w'=> e= .returned (.bool true)∧Ext w w':=by
 have a1:¬(7:Int) < k:=by omega
 have a2:¬(wd:Int) < 1:=by omega
 have a3:¬(256:Int) < wd:=by omega
 have a4:¬(36028797018963968:Int)≤i:=by omega
 have a5:IntKind.u64.wrap (wd:Int)=wd:=by rw[IntKind.wrap_u64];omega
 have hk3:k=0∨k=1∨k=2:=by omega
 rcases hk3 with rfl | rfl | rfl;all_goals
  go_enter Tryz.func145,Tryz.ntmps145;go_wp2_with fail;go_ret;exact ⟨congrArg (fun b=> Ending.returned (.bool b)) (decide_eq_true (by omega)),(Upd.refl none' w).alloc _⟩
theorem path_any(w:World)(k i wd:Nat)(hk:k≤2)(hi:i≤65536)(h1:1≤wd)(h2:wd≤256)(T:Tab10 w):
 Calls Tryz.prog 42 #[tileV k i wd] w fun e w'=> e= .returned (.tuple #[.string (str (pathB k i wd)),.nilIface])∧Ext w w':=by
 obtain ⟨i0,hi0,hz0,hz1,hz2⟩:=info_parts info_u8;have X0:=(Upd.refl none' w).alloc (.cells #[.int .u8 k,.int .u64 i,.int .i64 wd] 115);have HQ:=ZA (blk_alloc w (.cells #[.int .u8 k,.int .u64 i,.int .i64 wd] 115));have HX:=ZA X0;have HT:=ZA (T.ext X0);have HT0:=ZA T;have C:=tmay_any (w.alloc (.cells #[.int .u8 k,.int .u64 i,.int .i64 wd] 115)) k i wd hk hi h1 h2;have HKI:=ZA (⟨hk,hi,h1,h2⟩:k≤2∧i≤65536∧1≤wd∧wd≤256);clear X0 T hk hi h1 h2;go_enter Tryz.func42,Tryz.ntmps42;go_wp2_with fail;refine C.mono ?_;rintro e w1 ⟨rfl,hx1⟩;have HX1:=ZA (HX.o.trans hx1);have HQ1:=ZA (Ext.blk hx1 HQ.o);have HT1:=ZA (HT.o.ext hx1);have d1:w1.cell? ⟨w.heap.size,1,none⟩=some (.int .u64 i):=cell_of_blk HQ1.o 1;have CD:=decimal_any i (by have:=HKI.o.2.1;omega) w1 HT1.o;clear hx1 C;go_wp2_with fail;refine CD.mono ?_;rintro e w2 ⟨rfl,hx2⟩;have HX2:=ZA (HX1.o.trans hx2);have HQ2:=ZA (Ext.blk hx2 HQ1.o);have HT2:=ZA (HT1.o.ext hx2);have hdl:=dec_len i (by have:=HKI.o.2.1;omega);have HD1:=ZA (dec_pos i);have HPB:=ZA (show pathB k i wd=tileB++Lib.decDigits k++ [47]++grp (pad3 (Lib.decDigits i))++(if wd < 256 then [46,112,47]++Lib.decDigits wd else []) from rfl);generalize Lib.decDigits i=D at*;obtain ⟨N,hN⟩:∃N:Nat,N=(D.length+2) / 3*3:=⟨_,rfl⟩;have hNi:((D.length:Int)+2) / 3*3=(N:Nat):=by omega
 have hN24:N≤24:=by omega
 have hDN:D.length≤N:=by omega
 have HNE:=ZA hN;have HNM:=ZA (show i0.bytes*N≤281474976710656∧N≤maxLen by rw[hz2];unfold maxLen;omega);clear hN hx2 CD d1;go_wp2_with (at_make;refine wpList_make_full _ rfl _ _ 50 rfl w.heap.size 5 i0 _ 1 Tryz.underlying50 hi0 hz0 hz1 .i64 .i64 _ _ N rfl rfl rfl rfl HNM.o.1 HNM.o.2 HX2.o.size ?_);intro w3 hown hgrow;have hblk:∃R:List Value,R.length=N∧w3.heap[w2.heap.size]? =some (.cells R.toArray 5 (0,0)):=by
  rcases hown.2 with ⟨hv,_⟩ | ⟨g,cap,cur,hv,hb,hg,hnc,hcm,hcs,ht⟩
  ·cases hv
  ·simp only[Value.slice.injEq,Option.some.injEq,Addr.mk.injEq,and_true,true_and] at hv;obtain ⟨rfl,_,rfl⟩:=hv;obtain ⟨cl⟩:=cur;exact ⟨cl,by simpa using hcs,hg⟩
 obtain ⟨R,hR,hblk⟩:=hblk;have HBK:=ZA hblk;have HR:=ZA hR;have HG2:=ZA HX2.o.size;have HX23:=ZA ((Upd.refl none' w2).grown hgrow (fun k hk=> by cases hk));have HX3:=ZA (HX2.o.trans HX23.o);have HQ3:=ZA (Ext.blk HX23.o HQ2.o);have HQG:=ZA (show w.heap.size < w2.heap.size from lt_of_blk HQ2.o);have HT3:=ZA (HT2.o.ext HX23.o);clear hown hgrow hblk hR;generalize w2.heap.size=g at*;go_wp2_with fail;go_loopw [23] (fun iv wr=> FlRel g N w3 iv wr) (fun iv _=> N - (RowKit.intOf iv).toNat);case atStart=> exact ⟨0,R,rfl,Nat.zero_le _,by rw[HR.o];rfl,HBK.o,Upd.refl _ _⟩
 case round=>
  obtain ⟨j,R2,rfl,hj,hr2,hb,u⟩:=hrel;have HU:=ZA u;have HB:=ZA hb;have HR2:=ZA hr2;clear u hb hr2;by_cases hlt:j < N
  ·have hlti:(j:Int) < N:=by omega
   obtain ⟨v0,R3,rfl⟩:∃v0 R3,R2=v0::R3:=by
    cases R2 with
    | nil=> have:=HR2.o;simp at this;omega
    | cons a b=> exact ⟨a,b,rfl⟩
   have hl48:((List.replicate j (48:UInt8)).map u8v).length=j:=by simp
   have f0:=free_of_blk HB.o j;have c0:wr.cell? ⟨g,j,none⟩=some v0:=by rw[cell_of_blk HB.o,List.getElem?_toArray,List.getElem?_append_right (by omega),hl48,Nat.sub_self];rfl
   have HB3:Hid ((wr.setCell ⟨g,j,none⟩ (.int .u8 48)).heap[g]? =some (.cells ((List.replicate (j+1) (48:UInt8)).map u8v++R3).toArray 5 (0,0))):=ZA (by
    rw[blk_set HB.o j (.int .u8 48)];have e:((List.replicate j (48:UInt8)).map u8v++v0::R3).set j (.int .u8 48)=(List.replicate (j+1) (48:UInt8)).map u8v++R3:=by rw[List.set_append_right _ _ (by omega),hl48,Nat.sub_self,List.replicate_succ',List.map_append];simp
    rw[←e];simp)
   have HU3:=ZA (HU.o.setCell (p:=⟨g,j,none⟩) (.inr rfl) (.int .u8 48));clear hl48 hj hlt;go_wp2_with fail;have hlt2:j < N:=by omega
   have hr:=HR2.o;simp only[List.length_cons] at hr;exact ⟨⟨j+1,R3,rfl,by omega,by omega,HB3.o,HU3.o⟩,by simp[RowKit.intOf];omega⟩
  ·have hjN:j=N:=by omega
   have hlti:¬(j:Int) < N:=by omega
   subst hjN;have hR0:R2= []:=List.eq_nil_of_length_eq_zero (by have:=HR2.o;omega);subst hR0;clear hlt hj;have hdl1:1≤D.length:=HD1.o;have hsub:(j:Int) - D.length=((j - D.length:Nat):Int):=by omega
   have HSU:=ZA (show IntKind.i64.wrap ((j:Int) - D.length)=((j - D.length:Nat):Int) by rw[hsub];exact IntWalk.i64_in _ (by omega));have HLO:=ZA (show j - D.length≤j by omega);have HCL:=ZA (show D.length≤j - (j - D.length) by omega);have HFT:=ZA (show j - D.length+D.length≤((List.replicate j (48:UInt8)).map u8v++ []).length by simp;omega);have HLE:=ZA (show (if j=j - D.length then some ⟨g,0,none⟩ else (some (⟨g,0,none⟩:Addr)).map (·.add ((j - D.length)*1)))=some ⟨g,j - D.length,none⟩ by rw[if_neg (by omega)];simp only[Option.map_some,Addr.add_lit,Nat.zero_add,Nat.mul_one]);have HOV:Hid (over ((List.replicate j (48:UInt8)).map u8v++ []) (j - D.length) (D.map u8v)=(pad3 D).map u8v):=ZA (by
    have h1:=HNE.o;unfold over pad3;have e1:j - D.length=(3 - D.length % 3) % 3:=by omega
    rw[List.append_nil,List.length_map,show j - D.length+D.length=j by omega,List.drop_of_length_le (by simp),List.append_nil,List.map_append,e1,←List.map_take,List.take_replicate,Nat.min_eq_left (by omega)])
   have HQR:=ZA (HU.o.blk HQ3.o (fun e=> by have e2:w.heap.size=g:=e;have:=HQG.o;omega));have HQ4:=ZA (blk_setRow_ne HQR.o (show w.heap.size≠g by have:=HQG.o;omega) ((pad3 D).map u8v).toArray);have HB4:=ZA (blk_setRow HB.o ((pad3 D).map u8v).toArray);have HU4:=ZA (HU.o.setRow (g:=g) (.inr rfl) ((pad3 D).map u8v).toArray);have HX4:=ZA (HX3.o.then HU4.o (fun b hb e=> by have e2:b=g:=e;have:=HG2.o;omega));have HT4:=ZA (HT0.o.ext HX4.o);have e0:(wr.setRow g ((pad3 D).map u8v).toArray).cell? ⟨w.heap.size,0,none⟩=some (.int .u8 k):=cell_of_blk HQ4.o 0;have CD:=decimal_any k (by have:=HKI.o.1;omega) (wr.setRow g ((pad3 D).map u8v).toArray) HT4.o;have hk64:IntKind.u64.wrap (k:Int)=k:=by rw[IntKind.wrap_u64];have:=HKI.o.1;omega
   clear hsub;go_wp2_with (first
    | (refine wpList_run rfl (run_bop _ rfl (.int .i64 j) (.int .i64 D.length) (.int .i64 ((j - D.length:Nat):Int)) rfl rfl (run_subI .i64 j D.length _ HSU.o _)) ?_)
    | (refine wpList_run rfl (run_val (run_slLo _ rfl (some ⟨g,0,none⟩) j j (j - D.length) 1 5 rfl rfl HLO.o Tryz.underlying50 u8_size) (by rw[HLE.o])) ?_)
    | (refine wpList_copyStrR rfl _ _ 50 9 rfl 5 i0 Tryz.underlying50 hi0 hz1 g (j - D.length) (j - (j - D.length)) (j - (j - D.length)) D _ 5 rfl rfl HB.o HCL.o HFT.o ?_;rw[HOV.o]))
   generalize wr.setRow g ((pad3 D).map u8v).toArray=W4 at*;refine CD.mono ?_;rintro e w5 ⟨rfl,hx5⟩;have HX5:=ZA (HX4.o.trans hx5);have HQ5:=ZA (Ext.blk hx5 HQ4.o);have HB5:=ZA (Ext.blk hx5 HB4.o);have HT5:=ZA (HT4.o.ext hx5);have hkl:=dec_len k (by have:=HKI.o.1;omega);clear hx5 CD e0;have HPL:=ZA (pad3_len D);have HPE:=ZA (show (pad3 D).length=j by rw[pad3_len];exact HNE.o.symm);generalize hK:Lib.decDigits k=K at*;have hl1:¬9223372036854775807 < 5+K.length:=by omega
   have hl2:¬9223372036854775807 < 5+K.length+1:=by omega
   have HKL:=ZA hkl;clear hK;generalize hPD:pad3 D=PD at*;have HST:=ZA (show (⟨#[116,105,108,101,47]⟩++str K++⟨#[47]⟩:ByteArray)=str (tileB++K++ [47]) by apply ByteArray.ext;simp[tileB])
   clear hPD;go_wp2_with fail;rw[HST.o];go_loopw [5,7] (fun sv tv wr=> GrRel g PD (tileB++K++ [47]++grp PD) w5 sv tv wr) (fun sv _ _=> slLen sv);case atStart=> exact ⟨0,tileB++K++ [47],Nat.zero_le _,by rw[HPE.o];rfl,rfl,rfl,by have:=HKL.o;simp[tileB];omega,rfl⟩
   case round=>
    obtain ⟨off,pre,hoff,rfl,rfl,hpre,hpl,hw⟩:=hrel;subst hw;have HPRE:=ZA hpre;have hpj:=HPE.o;obtain ⟨n,hn⟩:∃n,n=PD.length - off:=⟨_,rfl⟩;have hrl:(PD.drop off).length=n:=by rw[List.length_drop,hn]
    have HCC:=ZA (show∀i (h:i < (PD.drop off).length),wr.cell? ⟨g,off+i,none⟩=some (u8v (PD.drop off)[i]) from fun i h=> by
     rw[cell_of_blk HB5.o];have:off+i < PD.length:=by rw[List.length_drop] at h;omega
     simp[this])
    rw[←hn];have HN:=ZA hn;have HOF:=ZA hoff;have HPL2:=ZA hpl;have HRL:=ZA hrl;by_cases h3:3 < n
    ·have h3i:(3:Int) < n:=by omega
     obtain ⟨T3,hT3⟩:∃T3,T3=(PD.drop off).take 3:=⟨_,rfl⟩;have hT3l:T3.length=3:=by rw[hT3,List.length_take,hrl];omega
     have HCV:Hid ((convert 50 9 (.slice (some ⟨g,off,none⟩) 3 3)).run Tryz.prog wr= .ok (.string (str T3)) wr):=ZA (by
      have h:=str3 (w:=wr) (g:=g) (off:=off) (l:=T3) (c:=3) (fun i h=> by
       have h2:i < (PD.drop off).length:=by rw[hrl];omega
       rw[HCC.o i h2];simp[hT3])
      rwa [hT3l] at h)
     have hx1:¬9223372036854775807 < 1+T3.length:=by omega
     have hx2:¬9223372036854775807 < 1+T3.length+1:=by omega
     have hx3:¬9223372036854775807 < pre.length+(1+T3.length+1):=by omega
     have HNX:=ZA (show (pre++ [120]++T3++ [47])++grp (PD.drop (off+3))=tileB++K++ [47]++grp PD by rw[←HPRE.o,grp_step (PD.drop off) (by rw[hrl];omega),←hT3,List.drop_drop];simp)
     have HLE:=ZA (show (if n=3 then some ⟨g,off,none⟩ else (some (⟨g,off,none⟩:Addr)).map (·.add (3*1)))=some ⟨g,off+3,none⟩ by rw[if_neg (by omega)];simp only[Option.map_some,Addr.add_lit]);have HN3:=ZA (show 3≤n by omega);have HSS:=ZA (show (str pre++(⟨#[120]⟩++str T3++⟨#[47]⟩):ByteArray)=str (pre++ [120]++T3++ [47]) by apply ByteArray.ext;simp)
     have HT3:=ZA hT3l;clear hn hoff hpl hrl h3 hT3 hT3l hpj hpre;go_wp2_with (first
      | (refine wpList_run rfl (run_sl3 _ rfl g off n n rfl rfl rfl HN3.o Tryz.underlying50 u8_size) ?_)
      | (refine wpList_run rfl (exec_conv _ rfl (.slice (some ⟨g,off,none⟩) 3 3) _ rfl HCV.o) ?_)
      | (refine wpList_run rfl (run_val (run_slLo _ rfl (some ⟨g,off,none⟩) n n 3 1 5 rfl rfl HN3.o Tryz.underlying50 u8_size) (by rw[HLE.o])) ?_))
     refine ⟨⟨_,_,_,_,_,_,_,_,_,_,_,_,_,_,?_,rfl⟩,?_⟩
     ·rw[HSS.o];exact ⟨off+3,pre++ [120]++T3++ [47],by have:=HN.o;have:=HOF.o;omega,by rw[show PD.length - (off+3)=n - 3 by have:=HN.o;omega],rfl,HNX.o,by have:=HPL2.o;have:=HT3.o;simp;omega,rfl⟩
     ·simp[slLen];have:=HN3.o;omega
    ·have h3i:¬(3:Int) < n:=by omega
     have HCV:Hid ((convert 50 9 (.slice (some ⟨g,off,none⟩) n n)).run Tryz.prog wr= .ok (.string (str (PD.drop off))) wr):=ZA (by have h:=str3 (w:=wr) (g:=g) (off:=off) (l:=PD.drop off) (c:=n) HCC.o;rwa [hrl] at h)
     have HNX:=ZA (show pre++PD.drop off=tileB++K++ [47]++grp PD by rw[←HPRE.o,grp_small (PD.drop off) (by rw[hrl];omega)])
     have hx3:¬9223372036854775807 < pre.length+(PD.drop off).length:=by omega
     generalize PD.drop off=rest at*;have HSS:=ZA (show (str pre++str rest:ByteArray)=str (tileB++K++ [47]++grp PD) by rw[←HNX.o];apply ByteArray.ext;simp)
     have HTL:=ZA (show (tileB++K++ [47]++grp PD).length≤200 by have h1:=congrArg List.length HNX.o;rw[List.length_append] at h1;rw[←h1];omega)
     clear hn hoff hpl h3 hpre hpj hrl;have q2:wr.cell? ⟨w.heap.size,2,none⟩=some (.int .i64 wd):=cell_of_blk HQ5.o 2;have HWD:=ZA (fun (_:Unit)=> HKI.o.2.2.2);by_cases hw:wd < 256
     ·have hwi:(wd:Int) < 256:=by omega
      have hw64:IntKind.u64.wrap (wd:Int)=wd:=by rw[IntKind.wrap_u64];omega
      have CW:=decimal_any wd (by omega) wr HT5.o;have hwl:=dec_len wd (by omega);have HF:=ZA (show tileB++K++ [47]++grp PD++([46,112,47]++Lib.decDigits wd)=pathB k i wd by rw[HPB.o,if_pos hw]);generalize Lib.decDigits wd=W at*;have hpl6:pre.length+rest.length≤200:=by have h1:=congrArg List.length HNX.o;rw[List.length_append] at h1;rw[h1];exact HTL.o
      have hx4:¬9223372036854775807 < 3+W.length:=by omega
      have hx5:¬9223372036854775807 < pre.length+rest.length+(3+W.length):=by omega
      have HSS2:=ZA (show (str pre++str rest++(⟨#[46,112,47]⟩++str W):ByteArray)=str (pathB k i wd) by rw[←HF.o,←HNX.o];apply ByteArray.ext;simp)
      clear hw;go_wp2_with (refine wpList_run rfl (exec_conv _ rfl (.slice (some ⟨g,off,none⟩) n n) _ rfl HCV.o) ?_);refine CW.mono ?_;rintro e w6 ⟨rfl,hx6⟩;have HX6:=ZA (HX5.o.trans hx6);clear hx6 CW;go_wp2_with fail;go_ret2;exact ⟨by rw[←HSS2.o];rfl,HX6.o⟩
     ·have hwi:¬(wd:Int) < 256:=by omega
      have HF:=ZA (show tileB++K++ [47]++grp PD=pathB k i wd by rw[HPB.o,if_neg hw,List.append_nil]);clear hw;go_wp2_with (refine wpList_run rfl (exec_conv _ rfl (.slice (some ⟨g,off,none⟩) n n) _ rfl HCV.o) ?_);go_ret2;exact ⟨by rw[←HF.o,←HSS.o];rfl,HX5.o⟩
end Go.Proofs.YtjnjpgdoncbahaaGreatDoor
