/- strconv.FormatUint at base 10: the decimal numeral of every uint64 (after the shelf's FormatInt); text.Decimal, writer.Leaf. No further condition, but that the table of powers of ten is as the program's text lays it. -/
import Derived.Test.YtjnjpgdoncbahaaGreatDoorShelf
import Derived.Test.YtjnjpgdoncbahaaGreatDoorBase
import Derived.Lib.ItoaMem
import Derived.Lib.ItoaWalk
import Derived.Lib.Walk
namespace Go.Proofs.YtjnjpgdoncbahaaGreatDoor
open Go.Shelf Go.RowKit Go.Sort Go.Lib
set_option maxRecDepth 100000
theorem fin0(w:World)(o:Obj)(dk:Array UInt8)(k:Nat):∃os,(putRow (fun (b:UInt8)=> Value.int .u8 (b.toNat:Int)) (w.alloc o) w.heap.size 0 dk).drewN k=grow (w.drewN k) os:=by rw[alloc_eq_grow];obtain ⟨os',_,e⟩:=putRow_grow_new (fun (b:UInt8)=> Value.int .u8 (b.toNat:Int)) w #[o] w.heap.size 0 dk (Nat.le_refl _);exact ⟨os',by rw[e];rfl⟩
theorem fmtu_in(u:Nat)(hu64:u < 18446744073709551616)(w:World)(htab:Lib.TabIs Tryz.prog w "internal/strconv.uint64pow10" .u64 Lib.pow10Tab):
 Calls Tryz.prog 269 #[.int .u64 u,.int .i64 10] w fun e w'=> e= .returned (.string ⟨(Lib.decDigits u).toArray⟩)∧∃k os,w'=grow (w.drewN k) os:=by
 by_cases hs:u < 100
 ·go_enter Tryz.func269,Tryz.ntmps269;go_wp2_with (go_at_call 300;refine (Tryz.internal_strconv_small u hs _).mono ?_;rintro e w' ⟨rfl,rfl⟩);go_ret;exact ⟨rfl,0,#[],by simp[World.drewN_zero]⟩
 ·have hu1:1≤u:=by omega
  have hnd20:Lib.nDigits u≤20:=by have:=Lib.numDigits_eq u hu1 hu64;split at this <;> omega
  have hb3:Lib.nDigits u≤24:=by omega
  have hal:Tryz.prog.arrayLen 431=24:=by simp[Program.arrayLen,Tryz.underlying431]
  have hsl1:∀W,(Instr.sliceAt 431 (.pointer (some ⟨w.heap.size,0,none⟩)) none (some (.int .i64 (Lib.nDigits u:Int))) none).run Tryz.prog W= .ok (.slice (some ⟨w.heap.size,0,none⟩) (Lib.nDigits u) 24) W:=fun W=> by rw[run_sliceAt_array_h W 431 ⟨w.heap.size,0,none⟩ (by simp[Program.arrayLen,Program.elem,Tryz.underlying431]) .i64 (Lib.nDigits u:Int) (by omega) (by rw[hal];omega)];go_simp
  have hH0:Holds (fun (b:UInt8)=> Value.int .u8 (b.toNat:Int)) (w.alloc (.cells Lib.zeros24 431)) w.heap.size 0 (Array.replicate (Lib.nDigits u) 0):=by
   intro j hj;rw[Array.size_replicate] at hj;constructor
   ·rw[World.cell?_alloc_new,Lib.zeros24_at _ (by omega)];simp[hj]
   ·exact World.frozen?_alloc_new _ _ _ _
  have hfmt:=Tryz.internal_strconv_formatBase10 w.heap.size 0 24 u (Array.replicate (Lib.nDigits u) 0) (w.alloc (.cells Lib.zeros24 431)) hH0 (by rw[Array.size_replicate];exact Lib.lt_pow_nDigits u) hu64 (by rw[Array.size_replicate];omega);rw[Array.size_replicate] at hfmt;have HH0:=ZA hH0;clear hH0 hal;go_enter Tryz.func269,Tryz.ntmps269;go_wp2_with (first
   | (go_at_call 301;refine (Tryz.internal_strconv_numDigits u hu1 hu64 _ (Lib.tabIs_alloc htab _)).mono ?_;rintro e w' ⟨rfl,rfl⟩))
  go_at_call 302;refine hfmt.mono ?_;rintro e w' ⟨rfl,k,v',dk,rfl,hF⟩;have hcv:(convert 50 9 (.slice (some ⟨w.heap.size,0,none⟩) (Lib.nDigits u) 24)).run Tryz.prog ((putRow (fun (b:UInt8)=> Value.int .u8 (b.toNat:Int)) (w.alloc (.cells Lib.zeros24 431)) w.heap.size 0 dk).drewN k)= .ok (.string ⟨(Lib.decDigits u).toArray⟩) ((putRow (fun (b:UInt8)=> Value.int .u8 (b.toNat:Int)) (w.alloc (.cells Lib.zeros24 431)) w.heap.size 0 dk).drewN k):=by
   have h:=run_convert_bytes_back (P:=Tryz.prog) ((putRow (fun (b:UInt8)=> Value.int .u8 (b.toNat:Int)) (w.alloc (.cells Lib.zeros24 431)) w.heap.size 0 dk).drewN k) 50 9 5 ⟨w.heap.size,0,none⟩ 24 (Lib.decDigits u) Tryz.underlying50 Tryz.underlying5 Tryz.underlying9 (fun j hj=> by rw[Lib.row_is_numeral hF j hj,Lib.add_plain,World.cell?_drewN];exact cell?_putRow (fun (b:UInt8)=> Value.int .u8 (b.toNat:Int)) _ w.heap.size 0 _ dk HH0.o (by rw[hF.size,Array.size_replicate]) j (by rw[hF.size];rw[Lib.decDigits_length] at hj;exact hj))
   rw[Lib.decDigits_length] at h;exact h
  go_wp2;go_ret;obtain ⟨os,eo⟩:=fin0 w (.cells Lib.zeros24 431) dk k;exact ⟨rfl,k,os,eo⟩
theorem fmtu(u:Nat)(hu64:u < 18446744073709551616)(w:World)(htab:Lib.TabIs Tryz.prog w "internal/strconv.uint64pow10" .u64 Lib.pow10Tab):
 Calls Tryz.prog 222 #[.int .u64 u,.int .i64 10] w fun e w'=> e= .returned (.string ⟨(Lib.decDigits u).toArray⟩)∧∃k os,w'=grow (w.drewN k) os:=by
 have C:=fmtu_in u hu64 w htab;go_enter Tryz.func222,Tryz.ntmps222;go_wp2_with (go_at_call 269;refine C.mono ?_;rintro e w' ⟨rfl,k,os,rfl⟩);go_ret;exact ⟨rfl,k,os,rfl⟩
end Go.Proofs.YtjnjpgdoncbahaaGreatDoor
