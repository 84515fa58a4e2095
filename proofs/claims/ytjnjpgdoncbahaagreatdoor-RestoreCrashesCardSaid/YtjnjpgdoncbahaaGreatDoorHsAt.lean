/- The statements' SameHashes, SameHashLists of the same, over cells. PRINTED by wip/tools/gen_hsat.py. -/
import Derived.Test.YtjnjpgdoncbahaaGreatDoorRsHead
namespace Go.Proofs.YtjnjpgdoncbahaaGreatDoor
open Go.RowKit Go.Lib
set_option maxRecDepth 20000
set_option maxHeartbeats 4000000
variable {P:Program}{a:Act}{o:Oper}{w:World}{x:Operand}
theorem addr_at26(g off k:Nat):(⟨g,off,none⟩:Addr).add k=⟨g,off+k,none⟩:=by unfold Addr.add;split <;> simp_all
theorem inv_neqAgg26{ops:Array Oper}{I:World→Prop}{Q:Act→Prop}{rest:List Oper}{y:Operand}(ty tr:TypeId)(cs ds:Array Value)(hw:Region.wanted o (yielded ops a.tmps)=true)(ho:o.op= .binOp .neq ty x y tr)
 (hx:a.eval x= .agg cs) (hy:a.eval y= .agg ds) (hm:P.eqGuardType P.depth ty=false) (hs:∀w,(Op.equalIn 10000 ty (.agg cs) (.agg ds)).run P w= .ok true w) (h:wpInv P ops I Q rest (a.put o.dst (.bool false))):wpInv P ops I Q (o::rest) a:=by
 refine inv_pure hw (fun w=> ?_) h;unfold execOp;simp only[ho,hx,hy,Sem.run_bind,run_eqGuard_agg w _ _ _ _ _ _ hm,run_neq_struct,hs,Result.andThen_ok,Sem.run_pure];rfl
theorem run_ixSlO26(w:World){t:TypeId}{ix:Operand}(ho:o.op= .indexAddr t x ix)(g off len cap k:Nat)(e:TypeId)(hx:a.eval x= .slice (some ⟨g,off,none⟩) len cap)(hi:a.eval ix= .int .i64 k)(hk:k < len)
 (hu:P.underlying t=some (.slice e)) (hs:(P.info? e).map (·.size)=some 1):(execOp a.eval o).run P w= .ok (.value (.pointer (some ⟨g,off+k,none⟩))) w:=by
 have hadd:=addr_at26 g off k;cases hq:P.info? e with
 | none=> simp[hq] at hs
 | some i=>
  have his:i.size=1:=by simpa[hq] using hs
  have hk2:(0:Int)≤(k:Int)∧(k:Int) < len:=by omega
  simp[execOp,ho,hx,hi,Instr.indexAt,run_underlying hu,asIntOf,sizeOf,typeInfo,hq,his,hk2,hk,hadd]
theorem sameH26{a b:Option Addr}{l:List HB}(h1:CellsAt w a (hcells l))(h2:CellsAt w b (hcells l))(h32:H32 l)(ha:a=none∨∃g o,a=some ⟨g,o,none⟩)(hb:b=none∨∃g o,b=some ⟨g,o,none⟩)(ca cb:Nat)(hl:l.length≤9223372036854775807):Calls Tryz.prog 153 #[.slice a l.length ca,.slice b l.length cb] w fun e w'=> e= .returned (.bool true)∧Ext w w':=by
 have H1:=ZA h1;have H2:=ZA h2;have H32S:=ZA h32;have HAB:=ZA (And.intro ha hb);clear h1 h2 h32 ha hb;go_enter Tryz.func153,Tryz.ntmps153;go_wp2_with fail;go_loopw [5] (fun iv wr=> ∃j:Nat,iv= .int .i64 j∧j≤l.length∧Ext w wr) (fun iv _=> l.length - (RowKit.intOf iv).toNat);case atStart=> exact ⟨0,rfl,Nat.zero_le _,Upd.refl _ _⟩
 case round=>
  obtain ⟨j,rfl,hj,u⟩:=hrel;have HU:=ZA u;clear u;by_cases hlt:j < l.length
  ·have hg:=List.getElem?_eq_getElem hlt;have hh:l[j].length=32:=H32S.o _ (List.getElem_mem hlt);have hpos:0 < (hcells l).length:=by rw[hcells_len H32S.o];omega
   obtain ⟨b1,o1,rfl⟩:∃g o,a=some ⟨g,o,none⟩:=by
    rcases HAB.o.1 with h | h
    ·obtain ⟨ad,h9,_⟩:=H1.o 0 _ (List.getElem?_eq_getElem hpos);rw[h] at h9;cases h9
    ·exact h
   obtain ⟨b2,o2,rfl⟩:∃g o,b=some ⟨g,o,none⟩:=by
    rcases HAB.o.2 with h | h
    ·obtain ⟨ad,h9,_⟩:=H2.o 0 _ (List.getElem?_eq_getElem hpos);rw[h] at h9;cases h9
    ·exact h
   have c1:=hash_at (H1.o.ext HU.o) H32S.o j hlt;have c2:=hash_at (H2.o.ext HU.o) H32S.o j hlt;rw[show l.getD j []=l[j] by rw[List.getD_eq_getElem?_getD,hg];rfl] at c1 c2;have hlti:(j:Int) < l.length:=by omega
   generalize l[j]=t at*;have HSZ:=ZA (hash_size32 t hh);have HC1:=ZA (fun (w7:World) (h7:Ext wr w7) (i:Nat) (u:Value) (hu:(t.map u8v)[i]? =some u)=> show w7.cell? ⟨b1,o1+j*32+i,none⟩=some u from Ext.cellv h7 (c1 i u hu));have HC2:=ZA (fun (w7:World) (h7:Ext wr w7) (i:Nat) (u:Value) (hu:(t.map u8v)[i]? =some u)=> show w7.cell? ⟨b2,o2+j*32+i,none⟩=some u from Ext.cellv h7 (c2 i u hu));have HHS:=ZA (hash_same t hh);clear c1 c2 hg hpos;go_wp2_with fail;refine region_inv (Ext wr) (by kernel_rfl) (by kernel_rfl) ((Upd.refl none' wr).drew) ?_;refine inv_move rfl rfl (.slice (some ⟨b1,o1,none⟩) l.length ca) rfl ?_;refine inv_norm (by go_simp;all_goals exact rfl) ?_;refine inv_move rfl rfl (.int .i64 j) rfl ?_;refine inv_norm (by go_simp;all_goals exact rfl) ?_;refine inv_indexSlice rfl rfl b1 o1 l.length ca j 32 33 rfl rfl hlt Tryz.underlying113 hash_size ?_;refine inv_norm (by go_simp;all_goals exact rfl) ?_;refine inv_loadAgg rfl 33 _ rfl b1 (o1+j*32) rfl (t.map u8v) Tryz.underlying33 rfl HSZ.o HC1.o ?_;refine inv_norm (by go_simp;all_goals exact rfl) ?_;refine inv_move rfl rfl (.slice (some ⟨b2,o2,none⟩) l.length cb) rfl ?_;refine inv_norm (by go_simp;all_goals exact rfl) ?_;refine inv_move rfl rfl (.int .i64 j) rfl ?_;refine inv_norm (by go_simp;all_goals exact rfl) ?_;refine inv_indexSlice rfl rfl b2 o2 l.length cb j 32 33 rfl rfl hlt Tryz.underlying113 hash_size ?_;refine inv_norm (by go_simp;all_goals exact rfl) ?_;refine inv_loadAgg rfl 33 _ rfl b2 (o2+j*32) rfl (t.map u8v) Tryz.underlying33 rfl HSZ.o HC2.o ?_;refine inv_norm (by go_simp;all_goals exact rfl) ?_;refine inv_neqAgg26 33 _ (t.map u8v).toArray (t.map u8v).toArray rfl rfl rfl rfl guard_hash HHS.o ?_;refine inv_norm (by go_simp;all_goals exact rfl) ?_;intro w7 h7;have HU7:=ZA (HU.o.trans h7);clear h7 HC1 HC2;go_wp2_with fail;exact ⟨⟨j+1,by simp,by omega,HU7.o⟩,by simp[RowKit.intOf];omega⟩
  ·obtain rfl:j=l.length:=by omega
   go_wp2_with fail;go_ret;exact ⟨rfl,HU.o⟩
theorem size_hsl26:(Tryz.prog.info? 113).map (·.size)=some 1:=by kernel_rfl
theorem body_sameH26:hasBody Tryz.prog 153=true:=by kernel_rfl
theorem sameHL26{A A2:Option Addr}{es:List (List HB)}(h:EdAt w A es)(h2:EdAt w A2 es)(h32:∀e∈es,H32 e∧e.length≤1048576)(ca cb:Nat)(hn:es.length≤1048576):
 Calls Tryz.prog 56 #[.slice A es.length ca,.slice A2 es.length cb] w fun e w'=> e= .returned (.bool true)∧Ext w w':=by
 have HH:=ZA h;have HH2:=ZA h2;have HL:=ZA h32;obtain ⟨n,hnn⟩:∃n,n=es.length:=⟨_,rfl⟩;have HN:=ZA hnn;rw[←hnn] at hn⊢;have hni:(n:Int)≤1048576:=by omega
 clear h h2 h32 hnn;go_enter Tryz.func56,Tryz.ntmps56;go_wp2_with fail;go_loopw [5] (fun iv wr=> ∃j:Nat,j≤n∧iv= .int .i64 j∧Ext w wr) (fun iv _=> n - (RowKit.intOf iv).toNat);case atStart=> exact ⟨0,Nat.zero_le _,rfl,Upd.refl _ _⟩
 case round=>
  obtain ⟨j,hj,rfl,u⟩:=hrel;have HU:=ZA u;clear u;by_cases hlt:j < n
  ·have hlti:(j:Int) < n:=by omega
   obtain ⟨e,he⟩:∃e,es[j]? =some e:=⟨_,List.getElem?_eq_getElem (by have:=HN.o;omega)⟩;obtain ⟨g1,o1,a,cap,rfl,hc1,_,hc3,hc4⟩:=HH.o j e he;obtain ⟨g2,o2,a2,cap2,rfl,hd1,_,hd3,hd4⟩:=HH2.o j e he;have he32:=HL.o e (List.mem_of_getElem? he);have HC1:=ZA hc1;have HD1:=ZA hd1;have HLT:=ZA hlt;have HLC:=ZA (fun (w7:World) (h7:Ext wr w7)=> sameH26 (hc3.ext (HU.o.trans h7)) (hd3.ext (HU.o.trans h7)) he32.1 hc4 hd4 cap cap2 (by omega));clear he hc1 hc3 hc4 he32 hd1 hd3 hd4;go_wp2_with fail;refine region_inv (fun w'=> Ext wr w') (by kernel_rfl) (by kernel_rfl) ((Upd.refl none' _).drew) ?_;refine inv_move rfl rfl (.slice (some ⟨g1,o1,none⟩) n ca) rfl ?_;refine inv_norm (by go_simp;exact rfl) ?_;refine inv_move rfl rfl (.int .i64 j) rfl ?_;refine inv_norm (by go_simp;exact rfl) ?_;refine inv_pure (v:= .pointer (some ⟨g1,o1+j,none⟩)) rfl (fun w7=> run_ixSlO26 w7 rfl g1 o1 n ca j 113 rfl rfl HLT.o Tryz.underlying37 size_hsl26) ?_;refine inv_norm (by go_simp;exact rfl) ?_;refine inv_load1 rfl rfl ⟨g1,o1+j,none⟩ (.slice a e.length cap) rfl Tryz.underlying113 rfl (fun w7 h7=> Ext.cellv (HU.o.trans h7) HC1.o) ?_;refine inv_norm (by go_simp;exact rfl) ?_;refine inv_move rfl rfl (.slice (some ⟨g2,o2,none⟩) n cb) rfl ?_;refine inv_norm (by go_simp;exact rfl) ?_;refine inv_move rfl rfl (.int .i64 j) rfl ?_;refine inv_norm (by go_simp;exact rfl) ?_;refine inv_pure (v:= .pointer (some ⟨g2,o2+j,none⟩)) rfl (fun w7=> run_ixSlO26 w7 rfl g2 o2 n cb j 113 rfl rfl HLT.o Tryz.underlying37 size_hsl26) ?_;refine inv_norm (by go_simp;exact rfl) ?_;refine inv_load1 rfl rfl ⟨g2,o2+j,none⟩ (.slice a2 e.length cap2) rfl Tryz.underlying113 rfl (fun w7 h7=> Ext.cellv (HU.o.trans h7) HD1.o) ?_;refine inv_norm (by go_simp;exact rfl) ?_;refine inv_call (v:= .bool true) rfl 153 [.tmp 20,.tmp 24] _ rfl body_sameH26 [.slice a e.length cap,.slice a2 e.length cap2] rfl (fun w7 h7=> (HLC.o w7 h7).mono (by rintro e9 w8 ⟨rfl,hx⟩;exact ⟨rfl,Upd.trans h7 hx⟩)) ?_;refine inv_norm (by go_simp;exact rfl) ?_;refine inv_pure (v:= .bool false) rfl (fun w7=> by go_simp) ?_;refine inv_norm (by go_simp;exact rfl) ?_;refine inv_nil ?_;intro w5 h5;have HU5:=ZA (HU.o.trans h5);clear h5;go_wp2_with fail;have hlt:=HLT.o;exact ⟨⟨j+1,by omega,by simp,HU5.o⟩,by simp[RowKit.intOf];omega⟩
  ·have hlti:¬(j:Int) < n:=by omega
   clear hlt hj;go_wp2_with fail;go_ret;exact ⟨rfl,HU.o⟩
end Go.Proofs.YtjnjpgdoncbahaaGreatDoor
