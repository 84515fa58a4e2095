/- The statements' marks as texts: word, markText, isText by contracts. checkpoint.Format of a checkpoint that may be, without further lines, by contract. -/
import Derived.Test.YtnkcfkjeeennmaaGreatDoorWriter2
import Derived.Test.YtnkcfkjeeennmaaGreatDoorShelf
import Derived.Lib.ItoaMem
import Derived.Lib.ItoaLen
import Derived.Test.YtnkcfkjeeennmaaGreatDoorIntOps
import Derived.Test.YtnkcfkjeeennmaaGreatDoorRune
import Derived.Test.YtnkcfkjeeennmaaGreatDoorDec
import Derived.Test.YtnkcfkjeeennmaaGreatDoorBuildOne
namespace Go.Proofs.YtnkcfkjeeennmaaGreatDoor
open Go.RowKit Go.Lib


theorem Ext.grow' (w : World) (k : Nat) (os : Array Obj) : Ext w (Sort.grow (w.drewN k) os) :=
  Ext.of_below (by
    have : Below w.heap.size (w.drewN k) (Sort.grow (w.drewN k) os) := ⟨rfl, rfl, rfl, by simp [Sort.grow, World.drewN], fun b hb => by simp [Sort.grow, World.drewN, Array.getElem?_append, hb]⟩
    exact ⟨this.os, this.tape, this.output, this.size, this.block⟩)
/-- The library's table of powers of ten lies as its start-up code lays it. -/
def Tab10 (w : World) : Prop := Lib.TabIs Tryz.prog w "internal/strconv.uint64pow10" .u64 Lib.pow10Tab
theorem Tab10.ext {w w' : World} (h : Tab10 w) (u : Ext w w') : Tab10 w' := by
  unfold Tab10 Lib.TabIs World.var? at *
  cases hg : Tryz.prog.globalNamed "internal/strconv.uint64pow10" with
  | none => simp [hg] at h
  | some g =>
    simp only [hg, Option.bind_some] at h ⊢
    cases hb : w.heap[g]? with
    | none => simp [hb] at h
    | some o => rw [Ext.blk u hb]; rw [hb] at h; exact h
def wordL (n : Nat) : List UInt8 := 35 :: Lib.itoa (n : Int)
theorem wordL_str (n : Nat) : (⟨#[35]⟩ : ByteArray) ++ (⟨(Lib.itoa (n : Int)).toArray⟩ : ByteArray) = str (wordL n) := by
  apply ByteArray.ext
  simp [wordL, str, ByteArray.data_append]
theorem word_any (n : Nat) (hn : n ≤ 1000000000) {w : World} (T : Tab10 w) : Calls Tryz.prog 155 #[.int .i64 n] w fun e w' => e = .returned (.string (str (wordL n))) ∧ Ext w w' := by
  have C := Tryz.strconv_Itoa (n : Int) (by omega) (by omega) w T
  have hl : (Lib.itoa (n : Int)).length ≤ 21 := Lib.itoa_length_le n (by omega) (by omega)
  have hlen : ¬ 9223372036854775807 < 1 + (Lib.itoa (n : Int)).length := by omega
  have HW := Lib.hid (wordL_str n)
  generalize Lib.itoa (n : Int) = l at *
  generalize wordL n = r at *
  clear T
  go_enter Tryz.func155, Tryz.ntmps155
  go_wp2_with fail
  refine C.mono ?_
  rintro e w1 ⟨rfl, k, os, rfl⟩
  have U := Lib.hid (Ext.grow' w k os)
  go_wp2_with fail
  go_ret
  exact ⟨by rw [← HW.out]; rfl, U.out⟩
theorem markText_any (n : Nat) (hn : n ≤ 1000000000) {w : World} (T : Tab10 w) : Calls Tryz.prog 114 #[.int .i64 n] w fun e w' => e = .returned (.string (str (wordL n))) ∧ Ext w w' := by
  have C := word_any n hn T
  clear T
  go_enter Tryz.func114, Tryz.ntmps114
  go_wp2_with fail
  refine C.mono ?_
  rintro e w1 ⟨rfl, u⟩
  go_wp2_with fail
  go_ret
  exact ⟨rfl, u⟩
theorem isText_any (n : Nat) (hn : n ≤ 1000000000) {w : World} (T : Tab10 w) : Calls Tryz.prog 118 #[.string (str (wordL n)), .int .i64 n] w fun e w' => e = .returned (.bool true) ∧ Ext w w' := by
  have C := word_any n hn T
  clear T
  generalize str (wordL n) = s at *
  go_enter Tryz.func118, Tryz.ntmps118
  go_wp2_with fail
  refine C.mono ?_
  rintro e w1 ⟨rfl, u⟩
  go_wp2_with fail
  go_ret
  exact ⟨by simp, u⟩

/-- A checkpoint's text. -/
def ckptB (o : List UInt8) (n : Nat) (root : HB) : List UInt8 := o ++ [10] ++ Lib.decDigits n ++ [10] ++ b64 root ++ [10]
def ckC (o : List UInt8) (n : Nat) (root : HB) : List Value := .string (str o) :: .int .u64 n :: (root.map u8v ++ [.slice none 0 0])
abbrev ckV (o : List UInt8) (n : Nat) (root : HB) : Value := .agg (ckC o n root).toArray
theorem ck_get (o : List UInt8) (n : Nat) (root : HB) (hr : root.length = 32) : (ckC o n root).toArray[34]? = some (.slice none 0 0) := by
  simp [ckC, hr]
theorem ck_root (o : List UInt8) (n : Nat) (root : HB) (j : Nat) (hj : j < root.length) : (ckC o n root).toArray[2 + j]? = some (u8v root[j]) := by
  simp only [ckC, List.getElem?_toArray]
  rw [show 2 + j = j + 1 + 1 by omega, List.getElem?_cons_succ, List.getElem?_cons_succ, List.getElem?_append_left (by simpa using hj)]
  simp [hj]
theorem run_app_nil {P : Program} (w : World) (t ty e : TypeId) (i : TypeInfo) (ht : P.underlying t = some (.slice e)) (hi : P.info? e = some i) (g n c : Nat) (hnc : n ≤ c) (hg : ∃ cs te f, w.heap[g]? = some (.cells cs te f)) :
    (Builtin.append_ #[t, t] ty #[.slice (some ⟨g, 0, none⟩) n c, .slice none 0 0]).run P w = .ok (.slice (some ⟨g, 0, none⟩) n c) w := by
  simp [Builtin.append_, run_underlying ht, sizeOf, typeInfo, hi, Builtin.lenOf, Builtin.firstCells, loadCells, loadCellsFrom, hnc, storeCells]
theorem run_build3 {P : Program} (w : World) (t e : TypeId) (ie : TypeInfo) (hu : P.underlying t = some (.slice e)) (hq : P.info? e = some ie) (hz : ie.zero = some (.string ⟨#[]⟩)) (hs : ie.size = 1) (a b c : ByteArray) :
    (Instr.buildSlice t 3 #[(0, .string a), (1, .string b), (2, .string c)]).run P w = .ok (.slice (some ⟨w.heap.size, 0, none⟩) 3 3) (w.alloc (.cells #[.string a, .string b, .string c] e)) := by
  cases ie
  simp only at hs hz
  subst hs
  refine run_buildSlice (P := P) w t e 3 _ #[.string a, .string b, .string c] _ (.string ⟨#[]⟩) hu hq hz (by simp) (by simp) ?_
  simp [Instr.fill, Value.cells, Builtin.zeroCells, Array.range]
  rfl
theorem run_root {w : World} {g : Nat} {o : List UInt8} {n : Nat} {root : HB} (hr : root.length = 32) (hq : w.heap[g]? = some (.cells (ckC o n root).toArray 32 (0, 0))) :
    (convert 165 9 (.slice (some ⟨g, 2, none⟩) 32 32)).run Tryz.prog w = .ok (.string (str root)) w := by
  have e := run_convert_bytes_arg (P := Tryz.prog) w 165 5 Tryz.underlying165 Tryz.underlying5 g 2 32 32 (root.map fun c => (c.toNat : Int)) (by simp [hr]) (fun i hi => by
    have hi2 : i < root.length := by rw [hr]; exact hi
    rw [cell_of_blk hq, ck_root o n root i hi2]
    simp [hi2]) 9 Tryz.underlying9
  rw [e, strOfNums_str]
theorem run_slArr (w : World) (g off : Nat) : (Instr.sliceAt 30 (.pointer (some ⟨g, off, none⟩)) none none none).run Tryz.prog w = .ok (.slice (some ⟨g, off, none⟩) 32 32) w := by
  obtain ⟨i0, hi0, hz0, hz1, hz2⟩ := info_parts info_u8
  simp [Instr.sliceAt, run_underlying Tryz.underlying30, Instr.sureAddr, Instr.sliceBounds, sizeOf, typeInfo, hi0, hz1, Addr.add]
theorem body_dec : hasBody Tryz.prog 100 = true := by kernel_rfl
theorem body_b64 : hasBody Tryz.prog 133 = true := by kernel_rfl
theorem info_strF : (Tryz.prog.info? 9).map (fun i => (i.zero, i.size, i.bytes)) = some (some (.string ⟨#[]⟩), 1, 16) := by kernel_rfl
def FmRel (w2 : World) (iv : Value) (wr : World) : Prop := iv = .int .i64 0 ∧ wr = w2
def P3 (a b c : ByteArray) (v : Value) (w : World) : Prop := ∃ g, v = .slice (some ⟨g, 0, none⟩) 3 3 ∧ w.heap[g]? = some (.cells #[.string a, .string b, .string c] 9 (0, 0))
theorem p3_lasts (a b c : ByteArray) : Lasts (P3 a b c) := fun v w w' ⟨g, h1, h2⟩ u => ⟨g, h1, Ext.blk u h2⟩
set_option maxRecDepth 20000 in
set_option maxHeartbeats 8000000 in
theorem format_any (w : World) (o : List UInt8) (n : Nat) (root : HB) (hr : root.length = 32) (ho : nameB o = true) (hol : o.length ≤ 64) (hn : n ≤ 1048576) (hB : BlankTab w) (hU : Lib.Utf8Tabs 17 18 w) (ht : Tab10 w) :
    Calls Tryz.prog 89 #[ckV o n root] w fun e w' => e = .returned (.tuple #[.string (str (ckptB o n root)), .nilIface]) ∧ Ext w w' := by
  have X0 := (Upd.refl none' w).alloc (.cells (ckC o n root).toArray 32)
  have HQ := Lib.hid (blk_alloc w (.cells (ckC o n root).toArray 32))
  have HX := Lib.hid X0
  have HRL := Lib.hid hr
  have HOL := Lib.hid hol
  have C := name_any (w.alloc (.cells (ckC o n root).toArray 32)) o (by omega) (hB.ext X0) (Utf8Tabs_below hU (Ext.below X0 (Nat.le_refl _)))
  rw [ho] at C
  have X0' := X0
  generalize hW : w.alloc (.cells (ckC o n root).toArray 32) = W at *
  have c0 : W.cell? ⟨w.heap.size, 0, none⟩ = some (.string (str o)) := cell_of_blk HQ.out 0
  have c1 : W.cell? ⟨w.heap.size, 1, none⟩ = some (.int .u64 n) := cell_of_blk HQ.out 1
  have c3 : W.cell? ⟨w.heap.size, 34, none⟩ = some (.slice none 0 0) := (cell_of_blk HQ.out 34).trans (ck_get o n root hr)
  have HC0 := Lib.hid c0
  have HC1 := Lib.hid c1
  have HC3 := Lib.hid c3
  have hni : ¬ (1048576 : Int) < n := by omega
  have HHN := Lib.hid hn
  have HT := Lib.hid (ht.ext X0')
  clear hr ho hol hn hB hU ht
  go_enter Tryz.func89, Tryz.ntmps89
  go_wp2_with fail
  refine C.mono ?_
  rintro e w1 ⟨rfl, hx1⟩
  have HX1 := Lib.hid (HX.out.trans hx1)
  have d1 : w1.cell? ⟨w.heap.size, 1, none⟩ = some (.int .u64 n) := Ext.cellv hx1 HC1.out
  have d3 : w1.cell? ⟨w.heap.size, 34, none⟩ = some (.slice none 0 0) := Ext.cellv hx1 HC3.out
  have HQ1 := Lib.hid (Ext.blk hx1 HQ.out)
  have HT1 := Lib.hid (HT.out.ext hx1)
  have HD0 := Lib.hid (Ext.cellv hx1 HC0.out)
  have HD1 := Lib.hid d1
  have HD3 := Lib.hid d3
  clear hx1 C c0 c1 c3 X0 X0'
  go_wp2_with fail
  go_loopw [15] (fun iv wr => FmRel w1 iv wr) (fun _ _ => 0)
  case atStart => exact ⟨rfl, rfl⟩
  case round =>
    obtain ⟨rfl, hw⟩ := hrel
    subst hw
    go_wp2_with fail
    refine region_slots3 [.inl (.pointer (some ⟨w.heap.size, 0, none⟩)), .inl (.string (str o)), .inl (.pointer (some ⟨w.heap.size, 1, none⟩)), .inl (.int .u64 n), .inl (.string (str (Lib.decDigits n))), .inl (.pointer (some ⟨w.heap.size, 2, none⟩)), .inl (.slice (some ⟨w.heap.size, 2, none⟩) 32 32), .inl (.string (str root)), .inl (.string (str (b64 root))), .inr (P3 (str o) (str (Lib.decDigits n)) (str (b64 root))), .inl (.pointer (some ⟨w.heap.size, 34, none⟩)), .inl (.slice none 0 0), .inr (P3 (str o) (str (Lib.decDigits n)) (str (b64 root))), .inr (P3 (str o) (str (Lib.decDigits n)) (str (b64 root)))] (by kernel_rfl) ?_ (by rfl) (by rfl) ?_ ?_
    · intro p hp
      simp only [List.mem_cons, reduceCtorEq, Sum.inr.injEq, false_or, or_false, List.not_mem_nil, or_self] at hp
      subst hp
      exact p3_lasts _ _ _
    rotate_left
    · intro v' w' X hv
      obtain ⟨g, h6, hg⟩ := (slot_prop3 (hv 13 _ 6 rfl rfl) rfl : P3 _ _ _ (v' 13) w')
      have HXF := Lib.hid (HX1.out.trans X)
      have HG := Lib.hid hg
      clear X hv
      refine q_norm (by simp only [putAll]; rewrite [h6]; go_simp; all_goals exact rfl) ?_
      clear h6 hg
      have CJ := Tryz.strings_Join g 0 3 [str o, str (Lib.decDigits n), str (b64 root)] ⟨#[10]⟩ w' (fun j x hx => by
        have hj : j = 0 ∨ j = 1 ∨ j = 2 := by
          have := (List.getElem?_eq_some_iff.1 hx).1
          simp at this; omega
        rw [cell_of_blk HG.out]
        rcases hj with rfl | rfl | rfl <;> simp at hx ⊢ <;> exact hx) (lt_of_blk HG.out) (by simp) (by simp) (by
          have h1 := dec_len n (by have := HHN.out; omega)
          have h2 := b64_len root
          have h3 := HOL.out
          have h4 := HRL.out
          simp [Lib.join]
          omega)
      have HJ : Lib.join (([str o, str (Lib.decDigits n), str (b64 root)] : List ByteArray).map (·.data.toList)) (⟨#[10]⟩ : ByteArray).data.toList = o ++ [10] ++ Lib.decDigits n ++ [10] ++ b64 root := by
        simp [Lib.join, List.intercalate]
      rw [HJ] at CJ
      obtain ⟨J, hJ⟩ : ∃ J, J = o ++ [10] ++ Lib.decDigits n ++ [10] ++ b64 root := ⟨_, rfl⟩
      have HF := Lib.hid (show str J ++ ⟨#[10]⟩ = str (ckptB o n root) by
        rw [hJ]
        apply ByteArray.ext
        simp [ckptB])
      have hJl : ¬ 9223372036854775807 < J.length + 1 := by
        have h1 := dec_len n (by have := HHN.out; omega)
        have h2 := b64_len root
        have h3 := HOL.out
        have h4 := HRL.out
        rw [hJ]
        simp only [List.length_append, List.length_singleton]
        omega
      have CJ2 : Calls Tryz.prog 134 #[.slice (some ⟨g, 0, none⟩) 3 3, .string ⟨#[10]⟩] w' fun e w'' => e = .returned (.string (str J)) ∧ Below w'.heap.size w' w'' := by rw [hJ]; exact CJ
      clear CJ HJ hJ
      go_wp2_with fail
      refine CJ2.mono ?_
      rintro e w8 ⟨rfl, hb8⟩
      have HXG := Lib.hid (HXF.out.trans (Ext.of_below hb8))
      clear hb8 CJ2
      go_wp2_with fail
      go_ret2
      exact ⟨by rw [← HF.out]; rfl, HXG.out⟩
    refine ⟨ty_fieldAddr3 _ _ (gd_none3 rfl) rfl rfl (kn_old3 1 rfl rfl) (fun w1 => by kernel_rfl), ?_⟩
    refine ⟨ty_load13 ⟨w.heap.size, 0, none⟩ _ (gd_none3 rfl) rfl rfl (kn_new3 0 rfl rfl rfl rfl) Tryz.underlying9 rfl (fun w7 hX => Ext.cellv hX HD0.out), ?_⟩
    refine ⟨ty_fieldAddr3 _ _ (gd_none3 rfl) rfl rfl (kn_old3 1 rfl rfl) (fun w1 => by kernel_rfl), ?_⟩
    refine ⟨ty_load13 ⟨w.heap.size, 1, none⟩ _ (gd_none3 rfl) rfl rfl (kn_new3 2 rfl rfl rfl rfl) Tryz.underlying28 rfl (fun w7 hX => Ext.cellv hX HD1.out), ?_⟩
    refine ⟨ty_call13 100 _ _ _ (gd_none3 rfl) rfl body_dec (kn_new3 3 rfl rfl rfl rfl) (fun w7 hX => known_call3 rfl (decimal_any n (by have := HHN.out; omega) w7 (HT1.out.ext hX))), ?_⟩
    refine ⟨ty_fieldAddr3 _ _ (gd_none3 rfl) rfl rfl (kn_old3 1 rfl rfl) (fun w1 => by kernel_rfl), ?_⟩
    refine ⟨ty_val3 (gd_none3 rfl) rfl (fun a w7 hX hH hN => ?_), ?_⟩
    · have h1 := (kn_new3 5 rfl rfl rfl rfl : Kn3 _ _ _ _ (.tmp 43) (.pointer (some ⟨w.heap.size, 2, none⟩))) a w7 hH hN
      simp only [execOp, h1, Option.map_none, Sem.run_bind, run_slArr w7, Result.andThen_ok]
      rfl
    refine ⟨ty_val3 (gd_none3 rfl) rfl (fun a w7 hX hH hN => ?_), ?_⟩
    · have h1 := (kn_new3 6 rfl rfl rfl rfl : Kn3 _ _ _ _ (.tmp 44) (.slice (some ⟨w.heap.size, 2, none⟩) 32 32)) a w7 hH hN
      simp only [execOp, h1, Sem.run_bind, run_root HRL.out (Ext.blk hX HQ1.out), Result.andThen_ok]
      rfl
    refine ⟨ty_call13 133 _ _ _ (gd_none3 rfl) rfl body_b64 (kn_new3 7 rfl rfl rfl rfl) (fun w7 hX => known_call3 rfl (base64_any w7 root (by rw [HRL.out]; omega) (by rw [HRL.out]))), ?_⟩
    refine ⟨ty_run3 (gd_none3 rfl) (fun a w7 hX hH hN => ?_), ?_⟩
    · have h1 := (kn_new3 1 rfl rfl rfl rfl : Kn3 _ _ _ _ (.tmp 39) (.string (str o))) a w7 hH hN
      have h2 := (kn_new3 4 rfl rfl rfl rfl : Kn3 _ _ _ _ (.tmp 42) (.string (str (Lib.decDigits n)))) a w7 hH hN
      have h3 := (kn_new3 8 rfl rfl rfl rfl : Kn3 _ _ _ _ (.tmp 46) (.string (str (b64 root)))) a w7 hH hN
      obtain ⟨i0, hi0, hz0, hz1, hz2⟩ := info_parts info_strF
      refine ⟨_, _, ?_, (Upd.refl none' w7).alloc (.cells #[.string (str o), .string (str (Lib.decDigits n)), .string (str (b64 root))] 9), ⟨w7.heap.size, rfl, blk_alloc _ _⟩⟩
      simp only [execOp, List.map_toArray, List.map_cons, List.map_nil, h1, h2, h3, Sem.run_bind, run_build3 w7 _ _ i0 Tryz.underlying22 hi0 hz0 hz1, Result.andThen_ok]
      rfl
    refine ⟨ty_fieldAddr3 _ _ (gd_none3 rfl) rfl rfl (kn_old3 1 rfl rfl) (fun w1 => by kernel_rfl), ?_⟩
    refine ⟨ty_load13 ⟨w.heap.size, 34, none⟩ _ (gd_none3 rfl) rfl rfl (kn_new3 10 rfl rfl rfl rfl) Tryz.underlying22 rfl (fun w7 hX => Ext.cellv hX HD3.out), ?_⟩
    refine ⟨ty_run3 (gd_none3 rfl) (fun a w7 hX hH hN => ?_), ?_⟩
    · obtain ⟨g, h1, hg⟩ := (new_prop3 9 hN rfl rfl rfl rfl : P3 _ _ _ (a.eval (.tmp 47)) w7)
      have h2 := (kn_new3 11 rfl rfl rfl rfl : Kn3 _ _ _ _ (.tmp 49) (.slice none 0 0)) a w7 hH hN
      obtain ⟨i0, hi0, hz0, hz1, hz2⟩ := info_parts info_strF
      refine ⟨.slice (some ⟨g, 0, none⟩) 3 3, w7, ?_, Upd.refl _ _, ⟨g, rfl, hg⟩⟩
      simp only [execOp, resolve, invoke, builtin, Sem.run_bind, Sem.run_pure, Result.andThen_ok, List.map_toArray, List.map_cons, List.map_nil, h1, h2, run_app_nil w7 _ _ _ i0 Tryz.underlying22 hi0 g 3 3 (by omega) ⟨_, _, _, hg⟩]
    refine ⟨ty_run3 (gd_none3 rfl) (fun a w7 hX hH hN => ?_), trivial⟩
    · obtain ⟨g, h1, hg⟩ := (new_prop3 12 hN rfl rfl rfl rfl : P3 _ _ _ (a.eval (.tmp 50)) w7)
      refine ⟨.slice (some ⟨g, 0, none⟩) 3 3, w7, ?_, Upd.refl _ _, ⟨g, rfl, hg⟩⟩
      simp only [execOp, h1, Sem.run_pure]
end Go.Proofs.YtnkcfkjeeennmaaGreatDoor
