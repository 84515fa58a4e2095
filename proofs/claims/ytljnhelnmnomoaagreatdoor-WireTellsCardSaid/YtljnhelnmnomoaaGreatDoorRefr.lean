/- cartularyref02's Reader: bad, fail, take, Left, End by contracts. It stands at a RdD as the program's reader does. cartularyref02's Reader: Fixed, Hash by contracts. cartularyref02's Reader: Var, Text by contracts. cartularyref02's Reader: Text by its contract; what a read of it answers. -/
import Derived.Test.YtljnhelnmnomoaaGreatDoorForms
import Derived.Test.YtljnhelnmnomoaaGreatDoorCode
import Derived.Test.YtljnhelnmnomoaaGreatDoorRefw
import Derived.Test.YtljnhelnmnomoaaGreatDoorStep
namespace Go.Proofs.YtljnhelnmnomoaaGreatDoor
open Go.RowKit Go.Lib


abbrev refRow (x : RdD) : Array Value := #[.string x.s, .int .i64 (x.pos : Int), .int .i64 (faultC x.f), .int .i64 (faultA x.f)]
/-- The document's reader at block b stands at x. -/
structure RefAt (w : World) (b : Nat) (x : RdD) : Prop where
  blk : w.heap[b]? = some (.cells (refRow x) 107 (0, 0))
  pos : x.pos ≤ x.s.size
  sz : x.s.size ≤ 9223372036854775807
  code : ∀ k p, x.f = some (k, p) → 1 ≤ k
theorem RefAt.upd {w w' : World} {b : Nat} {x : RdD} {S : Nat → Prop} (h : RefAt w b x) (u : Upd S w w') (hS : ¬ S b) : RefAt w' b x := ⟨u.blk h.blk hS, h.pos, h.sz, h.code⟩
theorem RefAt.ext {w w' : World} {b : Nat} {x : RdD} (h : RefAt w b x) (u : Ext w w') : RefAt w' b x := h.upd u id
theorem RefAt.nz {w : World} {b : Nat} {x : RdD} (h : RefAt w b x) : (faultC x.f != 0) = x.f.isSome := by
  cases hf : x.f with
  | none => rfl
  | some p =>
    obtain ⟨k, p⟩ := p
    have := h.code k p hf
    simp [faultC]
    omega
theorem fault_size2r : (Tryz.prog.info? 36).map (·.size) = some 2 := by kernel_rfl
theorem bad_r {w : World} {b : Nat} {x : RdD} (h : RefAt w b x) : Calls Tryz.prog 119 #[.pointer (some ⟨b, 0, none⟩)] w fun e w' => e = .returned (.bool x.f.isSome) ∧ w = w' := by
  have c2 : w.cell? ⟨b, 2, none⟩ = some (.int .i64 (faultC x.f)) := cell_of_blk h.blk 2
  have t := h.nz
  clear h
  go_enter Tryz.func119, Tryz.ntmps119
  go_wp2
  go_ret
  exact ⟨rfl, rfl⟩
theorem fail_r {w : World} {b : Nat} {x : RdD} (h : RefAt w b x) (e2 : EV) (h2 : e2 ≠ none) (hc : ∀ k p, e2 = some (k, p) → 1 ≤ k) :
    Calls Tryz.prog 120 #[.pointer (some ⟨b, 0, none⟩), faultV e2] w fun e w' => e = .returned (.tuple #[]) ∧ RefAt w' b (x.fail e2) ∧ Upd (one b) w w' := by
  have X := (Upd.refl none' w).alloc (.cells #[.int .i64 (faultC e2), .int .i64 (faultA e2)] 36)
  have hb := blk_alloc w (.cells #[.int .i64 (faultC e2), .int .i64 (faultA e2)] 36)
  have k0 : (w.alloc (.cells #[.int .i64 (faultC e2), .int .i64 (faultA e2)] 36)).cell? ⟨w.heap.size, 0, none⟩ = some (.int .i64 (faultC e2)) := cell_of_blk hb 0
  have k1 : (w.alloc (.cells #[.int .i64 (faultC e2), .int .i64 (faultA e2)] 36)).cell? ⟨w.heap.size, 1, none⟩ = some (.int .i64 (faultA e2)) := cell_of_blk hb 1
  have h1 := h.ext X
  have C := bad_r h1
  have HH := Lib.hid h
  have H1 := Lib.hid h1
  have HX := Lib.hid X
  by_cases hf : x.f = none
  · rw [show x.f.isSome = false from by simp [hf]] at C
    have e1 : x.fail e2 = { x with f := e2 } := by unfold RdD.fail; rw [if_pos hf]
    rw [e1]
    have c2 := cell_of_blk h1.blk 2
    have c3 := cell_of_blk h1.blk 3
    have f2 := free_of_blk h1.blk 2
    have f3 := free_of_blk h1.blk 3
    have c2 : (w.alloc (.cells #[.int .i64 (faultC e2), .int .i64 (faultA e2)] 36)).cell? ⟨b, 2, none⟩ = some (.int .i64 (faultC x.f)) := c2
    have c3 : (w.alloc (.cells #[.int .i64 (faultC e2), .int .i64 (faultA e2)] 36)).cell? ⟨b, 3, none⟩ = some (.int .i64 (faultA x.f)) := c3
    clear h h1 X hf e1 hb
    go_enter Tryz.func120, Tryz.ntmps120
    go_wp2_with fail
    refine C.mono ?_
    rintro e w1 ⟨rfl, rfl⟩
    go_wp2_with fail
    go_end0
    have b2 := blk_set (blk_set H1.out.blk 2 (.int .i64 (faultC e2))) 3 (.int .i64 (faultA e2))
    exact ⟨rfl, ⟨b2, HH.out.pos, HH.out.sz, hc⟩, ((Upd.ext HX.out (one b)).setCell (p := ⟨b, 2, none⟩) (.inr (show one b b from rfl)) _).setCell (p := ⟨b, 3, none⟩) (.inr (show one b b from rfl)) _⟩
  · rw [show x.f.isSome = true from by cases q : x.f <;> simp_all] at C
    have e1 : x.fail e2 = x := fail_keep x e2 hf
    rw [e1]
    clear h h1 X hf e1 hb
    go_enter Tryz.func120, Tryz.ntmps120
    go_wp2_with fail
    refine C.mono ?_
    rintro e w1 ⟨rfl, rfl⟩
    go_wp2_with fail
    go_end0
    exact ⟨rfl, H1.out, Upd.ext HX.out _⟩
theorem placed_r (c a : Int) (w : World) : Calls Tryz.prog 42 #[.int .i64 c, .int .i64 a] w fun e w' => e = .returned (.agg #[.int .i64 c, .int .i64 a]) ∧ Ext w w' := placed_any c a w
set_option maxHeartbeats 1000000 in
theorem take_r {w : World} {b : Nat} {x : RdD} (h : RefAt w b x) (n : Nat) (src : Nat) (hn : n ≤ 9223372036854775807) (hs : src ≤ 9223372036854775807) :
    Calls Tryz.prog 121 #[.pointer (some ⟨b, 0, none⟩), .int .i64 n, .int .i64 src] w fun e w' => (∃ ok, e = .returned (.tuple #[.string (str (x.take n src).1), .bool ok])) ∧ RefAt w' b (x.take n src).2 ∧ Upd (one b) w w' := by
  have c0 : w.cell? ⟨b, 0, none⟩ = some (.string x.s) := cell_of_blk h.blk 0
  have c1 : w.cell? ⟨b, 1, none⟩ = some (.int .i64 x.pos) := cell_of_blk h.blk 1
  have f1 := free_of_blk h.blk 1
  have C := bad_r h
  have hp := h.pos
  have hz := h.sz
  have HH := Lib.hid h
  by_cases hf : x.f = none
  · rw [show x.f.isSome = false from by simp [hf]] at C
    by_cases hc : x.pos + n ≤ x.s.size
    · have e1 : x.take n src = (x.rest.take n, { x with pos := x.pos + n }) := if_pos ⟨hf, hc⟩
      rw [e1]
      have t1 : decide ((x.s.size : Int) - (x.pos : Int) < (n : Int)) = false := by simp; omega
      have hx : x.s.extract x.pos (x.pos + n) = str (x.rest.take n) := extract_str x.s x.pos n hc
      clear h hf e1
      go_enter Tryz.func121, Tryz.ntmps121
      go_wp2_with fail
      refine C.mono ?_
      rintro e w1 ⟨rfl, rfl⟩
      go_wp2_with fail
      go_quiet (fail)
      go_wp2_with fail
      go_quiet (fail)
      go_wp2_with fail
      go_ret2
      rw [hx]
      have U := fun k => (((Upd.refl (one b) w).drewN k).setCell (p := ⟨b, 1, none⟩) (.inr (show one b b from rfl)) (.int .i64 ((x.pos : Int) + n)))
      have B3 : ∀ k, ((w.drewN k).setCell ⟨b, 1, none⟩ (.int .i64 ((x.pos : Int) + n))).heap[b]? = some (.cells #[.string x.s, .int .i64 ((x.pos : Int) + n), .int .i64 (faultC x.f), .int .i64 (faultA x.f)] 107 (0, 0)) := fun k => by
        simpa using blk_set (w := w.drewN k) HH.out.blk 1 (.int .i64 ((x.pos : Int) + n))
      exact ⟨⟨_, rfl⟩, ⟨B3 _, hc, hz, HH.out.code⟩, U _⟩
    · have e1 : x.take n src = ([], x.fail (some (3, some (src : Int)))) := if_neg (fun h => hc h.2)
      rw [e1]
      have t1 : decide ((x.s.size : Int) - (x.pos : Int) < (n : Int)) = true := by simp; omega
      clear h hf e1
      go_enter Tryz.func121, Tryz.ntmps121
      go_wp2_with fail
      refine C.mono ?_
      rintro e w1 ⟨rfl, rfl⟩
      go_wp2_with fail
      go_quiet (fail)
      go_wp2_with fail
      refine (placed_any 3 src _).mono ?_
      rintro e w2 ⟨rfl, u2⟩
      have X2 := Lib.hid (show Ext w w2 from ((Upd.refl none' w).drewN _).thenExt u2)
      have C2 := fail_r (HH.out.ext X2.out) (some (3, some (src : Int))) (by simp) (fun k p h => by cases h; decide)
      clear u2
      go_wp2_with fail
      refine C2.mono ?_
      rintro e w3 ⟨rfl, R3, u3⟩
      go_wp2_with fail
      go_ret2
      exact ⟨⟨false, rfl⟩, R3, (Upd.ext X2.out _).trans (u3.mono (fun _ _ h => h))⟩
  · rw [show x.f.isSome = true from by cases q : x.f <;> simp_all] at C
    have e1 : x.take n src = ([], x) := by
      unfold RdD.take
      rw [if_neg (fun h => hf h.1), fail_keep x _ hf]
    rw [e1]
    clear h hf e1
    go_enter Tryz.func121, Tryz.ntmps121
    go_wp2_with fail
    refine C.mono ?_
    rintro e w1 ⟨rfl, rfl⟩
    go_wp2_with fail
    go_ret2
    exact ⟨⟨false, rfl⟩, HH.out, Upd.refl _ _⟩
theorem end_r {w : World} {b : Nat} {x : RdD} (h : RefAt w b x) :
    Calls Tryz.prog 47 #[.pointer (some ⟨b, 0, none⟩)] w fun e w' => e = .returned (faultV x.fin) ∧ Ext w w' := by
  have X := (Upd.refl none' w).alloc (.cells #[.int .i64 0, .int .i64 0] 36)
  have h1 := h.ext X
  have c0 : (w.alloc (.cells #[.int .i64 0, .int .i64 0] 36)).cell? ⟨b, 0, none⟩ = some (.string x.s) := cell_of_blk h1.blk 0
  have c1 : (w.alloc (.cells #[.int .i64 0, .int .i64 0] 36)).cell? ⟨b, 1, none⟩ = some (.int .i64 x.pos) := cell_of_blk h1.blk 1
  have c2 : (w.alloc (.cells #[.int .i64 0, .int .i64 0] 36)).cell? ⟨b, 2, none⟩ = some (.int .i64 (faultC x.f)) := cell_of_blk h1.blk 2
  have c3 : (w.alloc (.cells #[.int .i64 0, .int .i64 0] 36)).cell? ⟨b, 3, none⟩ = some (.int .i64 (faultA x.f)) := cell_of_blk h1.blk 3
  have C := fun k => (bad_r (h1.ext (ext_drewN _ k))).mono (R' := fun e w' => e = .returned (.bool x.f.isSome) ∧ w' = (w.alloc (.cells #[.int .i64 0, .int .i64 0] 36)).drewN k) (fun _ _ ⟨p, q⟩ => ⟨p, q.symm⟩)
  have hp := h.pos
  have hz := h.sz
  have HX := Lib.hid X
  by_cases hf : x.f = none
  · rw [show x.f.isSome = false from by simp [hf]] at C
    have HC := Lib.hid C
    by_cases hlt : x.pos < x.s.size
    · have e1 : x.fin = some (3, some (x.pos : Int)) := if_pos ⟨hf, hlt⟩
      rw [e1]
      have hlti : (x.pos : Int) < (x.s.size : Int) := by omega
      clear h h1 X C hf e1
      go_enter Tryz.func47, Tryz.ntmps47
      go_wp2_with fail
      go_quiet ((go_at_call 119; exact Calls.quiet_of_same (HC.out _)))
      go_wp2_with fail
      refine (placed_any 3 x.pos _).mono ?_
      rintro e w2 ⟨rfl, u2⟩
      have X2 := (ext_drewN (w.alloc (.cells #[.int .i64 0, .int .i64 0] 36)) _).thenExt u2
      have hz2 := Ext.blk X2 (blk_alloc w (.cells #[.int .i64 0, .int .i64 0] 36))
      have k0 : w2.cell? ⟨w.heap.size, 0, none⟩ = some (.int .i64 0) := cell_of_blk hz2 0
      have k1 : w2.cell? ⟨w.heap.size, 1, none⟩ = some (.int .i64 0) := cell_of_blk hz2 1
      have g0 := free_of_blk hz2 0
      have g1 := free_of_blk hz2 1
      have HZ := Lib.hid (blk_set (blk_set hz2 0 (.int .i64 3)) 1 (.int .i64 (x.pos : Int)))
      have A := ((Upd.setCell (p := ⟨w.heap.size, 0, none⟩) (HX.out.thenExt X2) (.inl (Nat.le_refl _)) (.int .i64 3)).setCell (p := ⟨w.heap.size, 1, none⟩) (.inl (Nat.le_refl _)) (.int .i64 (x.pos : Int)))
      have HA := Lib.hid A
      clear X2 hz2 u2 A
      go_wp2_with fail
      exact bodyPost_ret (v := faultV (some (3, some (x.pos : Int)))) (results_cell_row rfl _ _ w.heap.size 36 #[.int .i64 3, .int .i64 (x.pos : Int)] (0, 0) _ rfl HZ.out Tryz.underlying36 rfl fault_size2r) rfl ⟨rfl, HA.out⟩
    · have e1 : x.fin = x.f := if_neg (fun h => hlt h.2)
      rw [e1]
      have hlti : ¬ (x.pos : Int) < (x.s.size : Int) := by omega
      have HF := Lib.hid hf
      have HZ := Lib.hid (fun k => blk_set (blk_set (w := (w.alloc (.cells #[.int .i64 0, .int .i64 0] 36)).drewN k) (blk_alloc w (.cells #[.int .i64 0, .int .i64 0] 36)) 0 (.int .i64 (faultC x.f))) 1 (.int .i64 (faultA x.f)))
      have HA := Lib.hid (fun k => ((Upd.setCell (p := ⟨w.heap.size, 0, none⟩) (X.thenExt (ext_drewN _ k)) (.inl (Nat.le_refl _)) (.int .i64 (faultC x.f))).setCell (p := ⟨w.heap.size, 1, none⟩) (.inl (Nat.le_refl _)) (.int .i64 (faultA x.f))))
      clear h h1 X C hf e1
      go_enter Tryz.func47, Tryz.ntmps47
      go_wp2_with fail
      go_quiet ((go_at_call 119; exact Calls.quiet_of_same (HC.out _)))
      go_wp2_with fail
      exact bodyPost_ret (v := faultV x.f) (results_cell_row rfl _ _ w.heap.size 36 #[.int .i64 (faultC x.f), .int .i64 (faultA x.f)] (0, 0) _ rfl (HZ.out _) Tryz.underlying36 rfl fault_size2r) rfl ⟨rfl, HA.out _⟩
  · rw [show x.f.isSome = true from by cases q : x.f <;> simp_all] at C
    have HC := Lib.hid C
    have e1 : x.fin = x.f := if_neg (fun h => hf h.1)
    rw [e1]
    have HZ := Lib.hid (fun k => blk_set (blk_set (w := (w.alloc (.cells #[.int .i64 0, .int .i64 0] 36)).drewN k) (blk_alloc w (.cells #[.int .i64 0, .int .i64 0] 36)) 0 (.int .i64 (faultC x.f))) 1 (.int .i64 (faultA x.f)))
    have HA := Lib.hid (fun k => ((Upd.setCell (p := ⟨w.heap.size, 0, none⟩) (X.thenExt (ext_drewN _ k)) (.inl (Nat.le_refl _)) (.int .i64 (faultC x.f))).setCell (p := ⟨w.heap.size, 1, none⟩) (.inl (Nat.le_refl _)) (.int .i64 (faultA x.f))))
    clear h h1 X C hf e1
    go_enter Tryz.func47, Tryz.ntmps47
    go_wp2_with fail
    go_quiet ((go_at_call 119; exact Calls.quiet_of_same (HC.out _)))
    go_wp2_with fail
    exact bodyPost_ret (v := faultV x.f) (results_cell_row rfl _ _ w.heap.size 36 #[.int .i64 (faultC x.f), .int .i64 (faultA x.f)] (0, 0) _ rfl (HZ.out _) Tryz.underlying36 rfl fault_size2r) rfl ⟨rfl, HA.out _⟩

theorem take_small (x : RdD) (n : Nat) (src : Int) (hn : n ≤ 9223372036854775807) : (x.take n src).1.length ≤ 9223372036854775807 := Nat.le_trans (take_short x n src).1 hn
/-- The hash's row while its bytes are laid. -/
def hrow (l : List UInt8) (j : Nat) : List UInt8 := l.take j ++ zeros32.drop j
theorem hrow_zero (l : List UInt8) : hrow l 0 = zeros32 := by simp [hrow]
theorem hrow_len (l : List UInt8) (j : Nat) (hj : j ≤ l.length) (hl : l.length ≤ 32) : (hrow l j).length = 32 := by
  unfold hrow
  rw [List.length_append, List.length_take, List.length_drop]
  have : zeros32.length = 32 := rfl
  omega
theorem hrow_set (l : List UInt8) (j : Nat) (hj : j < l.length) (hl : l.length ≤ 32) : ((hrow l j).map u8v).toArray.setIfInBounds j (u8v l[j]) = ((hrow l (j + 1)).map u8v).toArray := by
  apply Array.ext'
  simp only [Array.toList_setIfInBounds]
  have h1 := hrow_len l j (by omega) hl
  have h2 := hrow_len l (j + 1) (by omega) hl
  apply List.ext_getElem
  · simp [h1, h2]
  · intro i h3 h4
    simp only [List.getElem_set, List.getElem_map]
    by_cases hi : j = i
    · subst hi
      rw [if_pos rfl]
      congr 1
      simp only [hrow]
      rw [List.getElem_append_left (by simp; omega)]
      simp
    · rw [if_neg hi]
      congr 1
      simp only [hrow]
      by_cases hlt : i < j
      · rw [List.getElem_append_left (by simp; omega), List.getElem_append_left (by simp; omega)]
        simp
      · rw [List.getElem_append_right (by simp; omega), List.getElem_append_right (by simp; omega)]
        simp only [List.length_take, List.getElem_drop]
        congr 1
        omega
theorem hrow_all (l : List UInt8) (h : l.length = 32 ∨ l = []) : hrow l l.length = hashOf l := by
  rcases h with h | h
  · unfold hrow hashOf
    rw [if_pos h, List.take_length, h]
    exact List.append_nil l
  · subst h; rfl
set_option maxRecDepth 8000 in
set_option maxHeartbeats 1000000 in
theorem hash_r {w : World} {b : Nat} {x : RdD} (h : RefAt w b x) :
    Calls Tryz.prog 105 #[.pointer (some ⟨b, 0, none⟩)] w fun e w' => e = .returned (.agg (x.hash.1.map u8v).toArray) ∧ RefAt w' b x.hash.2 ∧ Upd (one b) w w' := by
  have HH := Lib.hid h
  have e1 : x.hash = (hashOf (x.take 32 x.pos).1, (x.take 32 x.pos).2) := by
    unfold RdD.hash
    split
    · rename_i hf
      unfold RdD.take
      rw [if_neg (fun h => hf h.1), fail_keep x _ hf]
      rfl
    · rfl
  rw [e1]
  have X := ((Upd.refl none' w).alloc (.cells zero32 120)).alloc (.cells zero32 120)
  have h1 := h.ext X
  have hbb := lt_of_blk h.blk
  have c1 : ((w.alloc (.cells zero32 120)).alloc (.cells zero32 120)).cell? ⟨b, 1, none⟩ = some (.int .i64 x.pos) := cell_of_blk h1.blk 1
  have C : Calls Tryz.prog 121 #[.pointer (some ⟨b, 0, none⟩), .int .i64 32, .int .i64 x.pos] ((w.alloc (.cells zero32 120)).alloc (.cells zero32 120)) fun e w' =>
      (∃ ok, e = .returned (.tuple #[.string (str (x.take 32 x.pos).1), .bool ok])) ∧ RefAt w' b (x.take 32 x.pos).2 ∧ Upd (one b) w w' ∧
      w'.heap[w.heap.size]? = some (.cells (zeros32.map u8v).toArray 120 (0, 0)) ∧ w'.heap[w.heap.size + 1]? = some (.cells (zeros32.map u8v).toArray 120 (0, 0)) ∧ w.heap.size + 2 ≤ w'.heap.size := by
    refine (take_r h1 32 x.pos (by decide) (by have := h.pos; have := h.sz; omega)).mono ?_
    rintro e w' ⟨h2, h3, u⟩
    refine ⟨h2, h3, (Upd.ext X _).trans (u.mono (fun _ _ h => h)), u.blk (blk_alloc_lt (blk_alloc w _) _) (fun e => by have e : w.heap.size = b := e; omega), u.blk ?_ (fun e => by have e : w.heap.size + 1 = b := e; omega), by have := u.size; simpa using this⟩
    have := blk_alloc (w.alloc (.cells zero32 120)) (.cells zero32 120)
    rwa [World.size_alloc] at this
  have hl := take_len x 32 x.pos
  have hl32 := (take_short x 32 x.pos).1
  clear h h1 X e1
  generalize x.take 32 x.pos = t at *
  have HC := Lib.hid C
  have HL := Lib.hid hl
  clear C hl
  go_enter Tryz.func105, Tryz.ntmps105
  go_wp2_with fail
  refine HC.out.mono ?_
  rintro e w1 ⟨⟨ok, rfl⟩, R1, u1, hb0, hb1, hsz⟩
  have HR := Lib.hid R1
  have HU := Lib.hid u1
  have HB0 := Lib.hid hb0
  have HB1 := Lib.hid hb1
  clear R1 u1 hb0 hb1 c1 HC
  go_wp2_with fail
  go_loopw [6] (fun iv wr => ∃ (j : Nat), iv = .int .i64 j ∧ j ≤ t.1.length ∧ wr.heap[w.heap.size + 1]? = some (.cells ((hrow t.1 j).map u8v).toArray 120 (0, 0)) ∧ Upd (one (w.heap.size + 1)) w1 wr) (fun iv _ => t.1.length - (intOf iv).toNat)
  case atStart => exact ⟨0, rfl, by omega, by rw [hrow_zero]; exact HB1.out, Upd.refl _ _⟩
  case round =>
    obtain ⟨j, rfl, hj, hbj, uj⟩ := hrel
    have HBJ := Lib.hid hbj
    have HUJ := Lib.hid uj
    by_cases hlt : j < t.1.length
    · have hj32 : (j : Int) < 32 := by omega
      have cj : wr.cell? ⟨w.heap.size + 1, j, none⟩ = some (u8v ((hrow t.1 j)[j]'(by rw [hrow_len _ _ hj hl32]; omega))) := by rw [cell_of_blk hbj, List.getElem?_toArray, List.getElem?_map, List.getElem?_eq_getElem (by rw [hrow_len _ _ hj hl32]; omega)]; rfl
      have fj := free_of_blk hbj j
      have hjj : (j : Int) < (t.1.length : Int) := by omega
      have hset := hrow_set t.1 j hlt hl32
      have HS := Lib.hid hset
      clear hbj uj hset
      go_wp2_with fail
      have hb2 := blk_set HBJ.out j (u8v t.1[j])
      rw [HS.out] at hb2
      exact ⟨⟨j + 1, by simp, by omega, hb2, HUJ.out.setCell (p := ⟨w.heap.size + 1, j, none⟩) (.inr (show one _ _ from rfl)) _⟩, by simp [intOf]; omega⟩
    · obtain rfl : j = t.1.length := by omega
      rw [hrow_all t.1 HL.out] at hbj
      have hL : (hashOf t.1).length = 32 := hashOf_len _
      generalize hlv : hashOf t.1 = lv at hbj hL ⊢
      have HLV := Lib.hid hlv
      clear hlv
      have hB0 := uj.blk HB0.out (fun e => by have e : w.heap.size = w.heap.size + 1 := e; omega)
      have c34 := fun j (v : Value) (hv : (lv.map u8v)[j]? = some v) => show wr.cell? ⟨w.heap.size + 1, 0 + j, none⟩ = some v by rw [cell_of_blk hbj]; simpa using hv
      have HC34 := Lib.hid c34
      have HBB := Lib.hid hB0
      have HSZ34 : Hid ((Tryz.prog.info? 120).map (·.size) = some (lv.map u8v).length) := by rw [List.length_map, hL]; exact hash_size'
      have HFit : Hid (0 + (lv.map u8v).length ≤ (zeros32.map u8v).length) := by show 0 + (lv.map u8v).length ≤ 32; rw [List.length_map, hL]; exact Nat.le_refl _
      have HOne : Hid (∀ u ∈ lv.map u8v, u.oneCell' = true) := by
        show ∀ u ∈ lv.map u8v, u.oneCell' = true
        intro u hu; obtain ⟨q, _, rfl⟩ := List.mem_map.1 hu; rfl
      have HOV := Lib.hid (show over (zeros32.map u8v) 0 (lv.map u8v) = lv.map u8v from over_all _ _ (by rw [List.length_map, List.length_map, hL]; rfl))
      have HZ := Lib.hid (blk_setRow hB0 (lv.map u8v).toArray)
      have U2 : Upd (one b) w (wr.setRow w.heap.size (lv.map u8v).toArray) := (HU.out.then (uj.mono (T := one (w.heap.size + 1)) (fun _ _ h => h)) (fun k hk e => by have e : k = w.heap.size + 1 := e; omega)).setRow (.inl (Nat.le_refl _)) _
      have R2 : RefAt (wr.setRow w.heap.size (lv.map u8v).toArray) b t.2 := (HR.out.upd uj (fun e => by have e : b = w.heap.size + 1 := e; omega)).upd ((Upd.refl (one w.heap.size) wr).setRow (.inr (show one _ _ from rfl)) _) (fun e => by have e : b = w.heap.size := e; omega)
      have HU2 := Lib.hid U2
      have HR2 := Lib.hid R2
      clear hbj uj hB0 c34 U2 R2 HR HU HB0 HB1 HBJ HUJ hL
      go_wp2_with (first
        | (refine wpList_loadAgg rfl 120 _ rfl (w.heap.size + 1) 0 rfl (lv.map u8v) Tryz.underlying120 rfl HSZ34.out HC34.out ?_)
        | (refine wpList_storeAgg rfl 120 _ _ rfl w.heap.size 0 rfl (lv.map u8v) rfl HSZ34.out (zeros32.map u8v) 120 HBB.out HFit.out HOne.out ?_))
      rw [HOV.out]
      exact bodyPost_ret (v := .agg (lv.map u8v).toArray) (results_cell_row rfl _ _ w.heap.size 120 (lv.map u8v).toArray (0, 0) _ rfl HZ.out Tryz.underlying120 rfl (by have := HSZ34.out; simpa using this)) rfl ⟨by rw [HLV.out], HR2.out, HU2.out⟩

/-- What Var answers, and how the reader stands behind it. -/
def VarPost (b : Nat) (x : RdD) (w : World) (e : Ending) (w' : World) : Prop := e = .returned (.int .u64 x.var.1) ∧ RefAt w' b x.var.2 ∧ Upd (one b) w w'
theorem rest_cons (x : RdD) (i : Nat) (c : UInt8) (l : List UInt8) (h : x.rest.drop i = c :: l) : x.rest.drop (i + 1) = l := by
  rw [← List.drop_drop, h]; rfl
theorem rest_get (x : RdD) (xl : List UInt8) (hx : x.s = str xl) (i : Nat) (c : UInt8) (l : List UInt8) (h : x.rest.drop i = c :: l) : x.pos + i < xl.length ∧ xl[x.pos + i]? = some c := by
  have h0 : (x.rest.drop i)[0]? = some c := by rw [h]; rfl
  unfold RdD.rest at h0
  rw [List.drop_drop, List.getElem?_drop, Nat.add_zero, hx] at h0
  have h1 : xl[x.pos + i]? = some c := h0
  exact ⟨(List.getElem?_eq_some_iff.1 h1).1, h1⟩
set_option maxRecDepth 8000 in
set_option maxHeartbeats 2000000 in
theorem var_r {w : World} {b : Nat} {x : RdD} (h : RefAt w b x) : Calls Tryz.prog 44 #[.pointer (some ⟨b, 0, none⟩)] w (VarPost b x w) := by
  have C := bad_r h
  have HH := Lib.hid h
  by_cases hf : x.f = none
  · rw [show x.f.isSome = false from by simp [hf]] at C
    obtain ⟨xl, hxl⟩ : ∃ l, x.s = str l := ⟨_, (str_toList x.s).symm⟩
    have hb := h.blk
    have hp := h.pos
    have hz := h.sz
    rw [hxl, str_size] at hp hz
    have HXL := Lib.hid hxl
    have c0 : w.cell? ⟨b, 0, none⟩ = some (.string (str xl)) := by rw [← hxl]; exact cell_of_blk hb 0
    have c1 : w.cell? ⟨b, 1, none⟩ = some (.int .i64 x.pos) := cell_of_blk hb 1
    have f1 := free_of_blk hb 1
    have HF := Lib.hid hf
    have start : numB x.rest = (numGo (10 - 0) (0 == 0) (x.rest.drop 0)).map (fun p => (0 + 2 ^ (7 * 0) * p.1, 0 + p.2)) := by simp [numB]
    have ST := Lib.hid start
    clear h hf hb hxl start
    go_enter Tryz.func44, Tryz.ntmps44
    go_wp2_with fail
    refine C.mono ?_
    rintro e w1 ⟨rfl, rfl⟩
    clear C
    go_wp2_with fail
    go_loopw [3, 4, 5] (fun nv sv iv wr => ∃ (i acc k : Nat), iv = .int .i64 i ∧ nv = .int .u64 acc ∧ sv = .int .u64 ((2 ^ (7 * i) : Nat) : Int) ∧ i ≤ 9 ∧ x.pos + i ≤ xl.length ∧ acc < 2 ^ (7 * i) ∧
      numB x.rest = (numGo (10 - i) (i == 0) (x.rest.drop i)).map (fun p => (acc + 2 ^ (7 * i) * p.1, i + p.2)) ∧ wr = w.drewN k) (fun _ _ iv _ => 10 - (intOf iv).toNat)
    case atStart => exact ⟨0, 0, 0, rfl, rfl, rfl, by omega, hp, by simp, ST.out, rfl⟩
    case round =>
      obtain ⟨i, acc, k, rfl, rfl, rfl, hi, hpi, hacc, hnum, rfl⟩ := hrel
      clear ST
      have hlen : (x.rest.drop i).length = xl.length - (x.pos + i) := by
        have := rest_len x
        rw [HXL.out, str_size] at this
        rw [List.length_drop, this]; omega
      by_cases hlt : x.pos + i < xl.length
      · obtain ⟨c, l, hcl⟩ : ∃ c l, x.rest.drop i = c :: l := by
          cases hr : x.rest.drop i with
          | nil => rw [hr] at hlen; simp at hlen; omega
          | cons c l => exact ⟨c, l, rfl⟩
        obtain ⟨_, hget⟩ := rest_get x xl HXL.out i c l hcl
        have hg2 : xl[x.pos + i] = c := by rw [List.getElem?_eq_getElem hlt] at hget; exact Option.some.inj hget
        have hi10 : (i : Int) < 10 := by omega
        have hlti : (x.pos : Int) + (i : Int) < (xl.length : Int) := by omega
        have hwr : IntKind.i64.wrap ((x.pos : Int) + (i : Int)) = (x.pos : Int) + (i : Int) := IntWalk.i64_in _ (by omega)
        have hnn : (0 : Int) ≤ (x.pos : Int) + (i : Int) := by omega
        have hcb := c.toNat_lt
        have hcw : IntKind.u64.wrap (c.toNat : Int) = (c.toNat : Int) := IntWalk.u64_in _ (by omega)
        obtain ⟨f, hf10⟩ : ∃ f, 10 - i = f + 1 := ⟨9 - i, by omega⟩
        rw [hf10, hcl] at hnum
        have hp7 : i < 9 → 2 ^ (7 * i) ≤ 2 ^ 56 := fun h => Nat.pow_le_pow_right (by omega) (by omega)
        have HI := Lib.hid hi
        by_cases hbad : (f = 0 ∧ 1 < c.toNat) ∨ ((i == 0) = false ∧ c.toNat = 0)
        · have hnone : numB x.rest = none := by rw [hnum]; unfold numGo; rw [if_pos hbad]; rfl
          have hvar : x.var = (0, x.fail (some (3, some (x.pos : Int)))) := by unfold RdD.var RdD.fail; rw [if_pos HF.out, hnone, if_pos HF.out]
          have HV := Lib.hid hvar
          have hb2 : ((((i : Int) == 9) = true ∧ 1 < (c.toNat : Int)) ∨ (((i : Int) == 9) = true ∧ decide (1 < (c.toNat : Int)) = false ∧ ((c.toNat : Int) == 0) = true ∧ 0 < i)) ∨ (((i : Int) == 9) = false ∧ 0 < i ∧ ((c.toNat : Int) == 0) = true) := by
            rcases hbad with ⟨h1, h2⟩ | ⟨h1, h2⟩
            · exact .inl (.inl ⟨by simp; omega, by omega⟩)
            · have h3 : i ≠ 0 := by simpa using h1
              by_cases h9 : i = 9
              · exact .inl (.inr ⟨by simp; omega, by simp; omega, by simp; omega, by omega⟩)
              · exact .inr ⟨by simp; omega, by omega, by simp; omega⟩
          clear hnum hcl hget hlen hbad hnone hvar hp7 hacc hcb
          rcases hb2 with (⟨t1, t2⟩ | ⟨t1, t2, t3, t4⟩) | ⟨t1, t2, t3⟩
          all_goals
            go_wp2_with fail
            go_quiet (fail)
            go_wp2_with fail
            go_quiet (fail)
            go_wp2_with fail
            refine (placed_any 3 x.pos _).mono ?_
            rintro e w2 ⟨rfl, u2⟩
            have X2 := Lib.hid (show Ext w w2 from ((Upd.refl none' w).drewN _).thenExt u2)
            have C2 := fail_r (HH.out.ext X2.out) (some (3, some (x.pos : Int))) (by simp) (fun k p h => by cases h; decide)
            clear u2
            go_wp2_with fail
            refine C2.mono ?_
            rintro e w3 ⟨rfl, R3, u3⟩
            go_wp2_with fail
            go_ret
            exact ⟨by rw [HV.out]; rfl, by rw [HV.out]; exact R3, (Upd.ext X2.out _).trans (u3.mono (fun _ _ h => h))⟩
        · have hgood : numGo (f + 1) (i == 0) (c :: l) = if c.toNat < 128 then some (c.toNat, 1) else (numGo f false l).map fun p => (c.toNat % 128 + 128 * p.1, p.2 + 1) := by
            conv => lhs; unfold numGo
            rw [if_neg hbad]
          rw [hgood] at hnum
          have hc9 : i = 9 → c.toNat ≤ 1 := fun h => by
            rcases Nat.lt_or_ge 1 c.toNat with h1 | h1
            · exact absurd (.inl ⟨by omega, h1⟩) hbad
            · exact h1
          have hc0 : 0 < i → c.toNat ≠ 0 := fun h e => hbad (.inr ⟨by simp; omega, e⟩)
          have hadd : 2 ^ (7 * i) * (c.toNat % 128) + acc < 18446744073709551616 := by
            by_cases h9 : i = 9
            · have := hc9 h9
              have h63 : (2 : Nat) ^ (7 * i) = 9223372036854775808 := by rw [h9]
              rw [h63] at hacc ⊢
              have : c.toNat % 128 ≤ 1 := Nat.le_trans (Nat.mod_le _ _) this
              have := Nat.mul_le_mul_left 9223372036854775808 this
              omega
            · have h56 := hp7 (by omega)
              have : c.toNat % 128 ≤ 127 := by omega
              have := Nat.mul_le_mul h56 this
              have e : (2 : Nat) ^ 56 = 72057594037927936 := by rfl
              rw [e] at this h56
              omega
          have nv1 : IntKind.u64.wrap (2 ^ (7 * i) * ((c.toNat : Int) % 128)) = ((2 ^ (7 * i) * (c.toNat % 128) : Nat) : Int) := by
            rw [show (2 : Int) ^ (7 * i) * ((c.toNat : Int) % 128) = ((2 ^ (7 * i) * (c.toNat % 128) : Nat) : Int) from by rw [Int.natCast_mul, Int.natCast_pow]; rfl]
            exact IntWalk.u64_in _ (by omega)
          have nv : IntKind.u64.wrap ((acc : Int) + IntKind.u64.wrap (2 ^ (7 * i) * ((c.toNat : Int) % 128))) = ((2 ^ (7 * i) * (c.toNat % 128) + acc : Nat) : Int) := by
            rw [nv1, show (acc : Int) + ((2 ^ (7 * i) * (c.toNat % 128) : Nat) : Int) = ((2 ^ (7 * i) * (c.toNat % 128) + acc : Nat) : Int) from by omega]
            exact IntWalk.u64_in _ (by omega)
          have NV := Lib.hid nv
          have tst : (((i : Int) == 9) = true ∧ decide (1 < (c.toNat : Int)) = false ∧ ((c.toNat : Int) == 0) = false ∧ 0 < i) ∨ (((i : Int) == 9) = false ∧ 0 < i ∧ ((c.toNat : Int) == 0) = false) ∨ (((i : Int) == 9) = false ∧ ¬ 0 < i) := by
            by_cases h9 : i = 9
            · have := hc9 h9
              have := hc0 (by omega)
              exact .inl ⟨by simp; omega, by simp; omega, by simp; omega, by omega⟩
            · by_cases h0 : 0 < i
              · have := hc0 h0
                exact .inr (.inl ⟨by simp; omega, h0, by simp; omega⟩)
              · exact .inr (.inr ⟨by simp; omega, h0⟩)
          by_cases h128 : c.toNat < 128
          · have h128i : (c.toNat : Int) < 128 := by omega
            rw [if_pos h128] at hnum
            have hvar : x.var = (2 ^ (7 * i) * (c.toNat % 128) + acc, { x with pos := x.pos + (i + 1) }) := by
              unfold RdD.var
              rw [if_pos HF.out, hnum]
              show (acc + 2 ^ (7 * i) * c.toNat, ({ x with pos := x.pos + (i + 1) } : RdD)) = _
              rw [Nat.mod_eq_of_lt h128, Nat.add_comm]
            have HV := Lib.hid hvar
            have HLT := Lib.hid hlt
            clear hnum hcl hget hlen hbad hgood hvar hp7 hacc hcb hc9 hc0 hadd nv1 nv hlt
            rcases tst with ⟨t1, t2, t3, t4⟩ | ⟨t1, t2, t3⟩ | ⟨t1, t2⟩
            all_goals
              go_wp2_with fail
              go_quiet (fail)
              go_wp2_with fail
              go_quiet (fail)
              go_wp2_with fail
              go_ret
              have B3 : ∀ k, ((w.drewN k).setCell ⟨b, 1, none⟩ (.int .i64 ((x.pos : Int) + i + 1))).heap[b]? = some (.cells #[.string x.s, .int .i64 ((x.pos : Int) + i + 1), .int .i64 (faultC x.f), .int .i64 (faultA x.f)] 107 (0, 0)) := fun k => by
                simpa using blk_set (w := w.drewN k) HH.out.blk 1 (.int .i64 ((x.pos : Int) + i + 1))
              have U3 := fun k => (((Upd.refl (one b) w).drewN k).setCell (p := ⟨b, 1, none⟩) (.inr (show one b b from rfl)) (.int .i64 ((x.pos : Int) + i + 1)))
              refine ⟨by rw [HV.out]; exact congrArg (fun z => Ending.returned (.int .u64 z)) NV.out, ?_, U3 _⟩
              rw [HV.out]
              refine ⟨?_, by show x.pos + (i + 1) ≤ x.s.size; rw [HXL.out, str_size]; have := HLT.out; omega, HH.out.sz, HH.out.code⟩
              rw [B3]
              show some (Obj.cells #[.string x.s, .int .i64 ((x.pos : Int) + i + 1), .int .i64 (faultC x.f), .int .i64 (faultA x.f)] _ _) = some (Obj.cells #[.string x.s, .int .i64 ((x.pos + (i + 1) : Nat) : Int), .int .i64 (faultC x.f), .int .i64 (faultA x.f)] _ _)
              rw [show ((x.pos + (i + 1) : Nat) : Int) = (x.pos : Int) + i + 1 from by omega]
          · have h128i : decide ((c.toNat : Int) < 128) = false := by simp; omega
            rw [if_neg h128] at hnum
            have hi9 : i ≤ 8 := by
              rcases Nat.lt_or_ge i 9 with h | h
              · omega
              · have := hc9 (by omega); omega
            have nv2 : IntKind.u64.wrap (2 ^ (7 * i) * 128) = ((2 ^ (7 * (i + 1)) : Nat) : Int) := by
              have e : (2 : Nat) ^ (7 * (i + 1)) = 2 ^ (7 * i) * 128 := by rw [show 7 * (i + 1) = 7 * i + 7 by omega, Nat.pow_add]
              have h56 := hp7 (by omega)
              have e2 : (2 : Nat) ^ 56 = 72057594037927936 := by rfl
              rw [e2] at h56
              rw [e, show (2 : Int) ^ (7 * i) * 128 = ((2 ^ (7 * i) * 128 : Nat) : Int) from by rw [Int.natCast_mul, Int.natCast_pow]; rfl]
              exact IntWalk.u64_in _ (by omega)
            have hacc2 : 2 ^ (7 * i) * (c.toNat % 128) + acc < 2 ^ (7 * (i + 1)) := by
              rw [show 7 * (i + 1) = 7 * i + 7 by omega, Nat.pow_add]
              have : 2 ^ (7 * i) * (c.toNat % 128) ≤ 2 ^ (7 * i) * 127 := Nat.mul_le_mul_left _ (by omega)
              omega
            have hnum2 : numB x.rest = (numGo (10 - (i + 1)) (i + 1 == 0) (x.rest.drop (i + 1))).map (fun p => (2 ^ (7 * i) * (c.toNat % 128) + acc + 2 ^ (7 * (i + 1)) * p.1, i + 1 + p.2)) := by
              rw [hnum, rest_cons x i c l hcl, show 10 - (i + 1) = f by omega, show (i + 1 == 0) = false from rfl, Option.map_map]
              congr 1
              funext p
              simp only [Function.comp_apply, Prod.mk.injEq]
              refine ⟨?_, by omega⟩
              rw [show 7 * (i + 1) = 7 * i + 7 by omega, Nat.pow_add, Nat.mul_add, show (2 : Nat) ^ 7 = 128 from rfl, Nat.mul_assoc]
              omega
            have HN2 := Lib.hid hnum2
            have HA2 := Lib.hid hacc2
            have NV2 := Lib.hid nv2
            have H9 := Lib.hid hi9
            clear hnum hcl hget hlen hbad hgood hp7 hacc hcb hc9 hc0 hadd nv1 nv hnum2 hacc2 nv2 hi9 h128
            rcases tst with ⟨t1, t2, t3, t4⟩ | ⟨t1, t2, t3⟩ | ⟨t1, t2⟩
            all_goals
              go_wp2_with fail
              go_quiet (fail)
              go_wp2_with fail
              go_quiet (fail)
              go_wp2_with fail
              exact ⟨⟨i + 1, 2 ^ (7 * i) * (c.toNat % 128) + acc, _, by simp, by rw [NV.out], by rw [NV2.out], by have := H9.out; omega, hlt, HA2.out, HN2.out, rfl⟩, by have := H9.out; simp [intOf]; omega⟩
      · have hnone : numB x.rest = none := by
          rw [hnum]
          have : x.rest.drop i = [] := List.eq_nil_of_length_eq_zero (by rw [hlen]; omega)
          rw [this, show 10 - i = (9 - i) + 1 by omega]
          rfl
        have hvar : x.var = (0, x.fail (some (3, some (x.pos : Int)))) := by unfold RdD.var RdD.fail; rw [if_pos HF.out, hnone, if_pos HF.out]
        have HV := Lib.hid hvar
        have hi10 : (i : Int) < 10 := by omega
        have hlti : decide ((x.pos : Int) + (i : Int) < (xl.length : Int)) = false := by simp; omega
        have hwr : IntKind.i64.wrap ((x.pos : Int) + (i : Int)) = (x.pos : Int) + (i : Int) := IntWalk.i64_in _ (by omega)
        clear hnum hlen hnone hvar hacc
        go_wp2_with fail
        go_quiet (fail)
        go_wp2_with fail
        refine (placed_any 3 x.pos _).mono ?_
        rintro e w2 ⟨rfl, u2⟩
        have X2 := Lib.hid (show Ext w w2 from ((Upd.refl none' w).drewN _).thenExt u2)
        have C2 := fail_r (HH.out.ext X2.out) (some (3, some (x.pos : Int))) (by simp) (fun k p h => by cases h; decide)
        clear u2
        go_wp2_with fail
        refine C2.mono ?_
        rintro e w3 ⟨rfl, R3, u3⟩
        go_wp2_with fail
        go_ret
        exact ⟨by rw [HV.out]; rfl, by rw [HV.out]; exact R3, (Upd.ext X2.out _).trans (u3.mono (fun _ _ h => h))⟩
  · rw [show x.f.isSome = true from by cases q : x.f <;> simp_all] at C
    have hvar : x.var = (0, x) := by unfold RdD.var; rw [if_neg hf]
    have HV := Lib.hid hvar
    clear h hf hvar
    go_enter Tryz.func44, Tryz.ntmps44
    go_wp2_with fail
    refine C.mono ?_
    rintro e w1 ⟨rfl, rfl⟩
    go_wp2_with fail
    go_ret
    exact ⟨by rw [HV.out]; rfl, by rw [HV.out]; exact HH.out, Upd.refl _ _⟩

theorem RefAt.var_ok {w : World} {b : Nat} {x : RdD} (h : RefAt w b x) : x.pos ≤ 9223372036854775807 := Nat.le_trans h.pos h.sz
set_option maxRecDepth 8000 in
set_option maxHeartbeats 2000000 in
theorem text_r {w : World} {b : Nat} {x : RdD} (h : RefAt w b x) (m : Int) (hm : m ≤ 9223372036854775807) :
    Calls Tryz.prog 46 #[.pointer (some ⟨b, 0, none⟩), .int .i64 m] w fun e w' => e = .returned (.string (str (x.text m).1)) ∧ RefAt w' b (x.text m).2 ∧ Upd (one b) w w' := by
  have HH := Lib.hid h
  by_cases hneg : m < 0
  · have e1 : x.text m = ([], x.fail (some (2, none))) := if_pos hneg
    rw [e1]
    have t1 : decide (m < 0) = true := by simpa using hneg
    clear h e1
    go_enter Tryz.func46, Tryz.ntmps46
    go_wp2_with fail
    refine (plain_any 2 _).mono ?_
    rintro e w1 ⟨rfl, u1⟩
    have C := fail_r (HH.out.ext u1) (some (2, none)) (by simp) (fun k p h => by cases h; decide)
    have H1 := Lib.hid u1
    clear u1
    go_wp2_with fail
    refine C.mono ?_
    rintro e w2 ⟨rfl, R2, u2⟩
    go_wp2_with fail
    go_ret
    exact ⟨rfl, R2, (Upd.ext H1.out _).trans (u2.mono (fun _ _ h => h))⟩
  · obtain ⟨n, rfl⟩ : ∃ n : Nat, m = n := ⟨m.toNat, by omega⟩
    have c1 : w.cell? ⟨b, 1, none⟩ = some (.int .i64 x.pos) := cell_of_blk h.blk 1
    have t0 : ¬ (n : Int) < 0 := hneg
    have CV := var_r h
    have HP := Lib.hid h.var_ok
    have e0 : x.text n = if x.var.2.f ≠ none then ([], x.var.2) else if (n : Int) < (x.var.1 : Int) then ([], x.var.2.fail (some (4, none))) else x.var.2.take x.var.1 x.pos := by
      unfold RdD.text
      rw [if_neg hneg]
      by_cases hf : x.f ≠ none
      · have e : x.var = (0, x) := by unfold RdD.var; rw [if_neg hf]
        rw [if_pos hf, e, if_pos hf]
      · rw [if_neg hf]
    rw [e0]
    have hv64 := var_small x
    have HVL := Lib.hid (var_le x)
    clear h e0 hneg
    generalize hy : x.var = y at *
    obtain ⟨v, y⟩ := y
    have HY := Lib.hid hy
    dsimp only at hv64 ⊢
    generalize hT : (if y.f ≠ none then ([], y) else if (n : Int) < (v : Int) then ([], y.fail (some (4, none))) else y.take v x.pos) = T
    have HT := Lib.hid hT
    clear hT
    go_enter Tryz.func46, Tryz.ntmps46
    go_wp2_with fail
    refine CV.mono ?_
    rintro e w1 ⟨he, R1, u1⟩
    rw [hy] at he R1
    subst he
    have HR := Lib.hid R1
    have HU := Lib.hid u1
    have CB := bad_r R1
    clear R1 u1 CV c1 hy
    go_wp2_with fail
    refine CB.mono ?_
    rintro e w2 ⟨rfl, rfl⟩
    clear CB
    by_cases hf : y.f = none
    · rw [show y.f.isSome = false from by simp [hf]]
      have hmw : IntKind.u64.wrap (n : Int) = (n : Int) := IntWalk.u64_in _ (by omega)
      by_cases hlim : (n : Int) < (v : Int)
      · have eT : T = ([], y.fail (some (4, none))) := by rw [← HT.out, if_neg (by simp [hf]), if_pos hlim]
        have HE := Lib.hid eT
        clear eT
        go_wp2_with fail
        refine (plain_any 4 _).mono ?_
        rintro e w3 ⟨rfl, u3⟩
        have C := fail_r (HR.out.ext u3) (some (4, none)) (by simp) (fun k p h => by cases h; decide)
        have H3 := Lib.hid (HU.out.thenExt u3)
        clear u3
        go_wp2_with fail
        refine C.mono ?_
        rintro e w4 ⟨rfl, R4, u4⟩
        go_wp2_with fail
        go_ret
        exact ⟨by rw [HE.out]; rfl, by rw [HE.out]; exact R4, H3.out.trans (u4.mono (fun _ _ h => h))⟩
      · have eT : T = y.take v x.pos := by rw [← HT.out, if_neg (by simp [hf]), if_neg hlim]
        have c0 : w1.cell? ⟨b, 0, none⟩ = some (.string y.s) := cell_of_blk HR.out.blk 0
        have hz := HR.out.sz
        have hsw : IntKind.u64.wrap (y.s.size : Int) = (y.s.size : Int) := IntWalk.u64_in _ (by omega)
        have hlim2 : decide (n < v) = false := by simp; omega
        by_cases hbig : y.s.size < v
        · have e2 : y.take v x.pos = ([], y.fail (some (3, some (x.pos : Int)))) := by
            unfold RdD.take
            rw [if_neg (fun h => by have := h.2; omega)]
          rw [e2] at eT
          have HE := Lib.hid eT
          clear hlim eT e2
          go_wp2_with fail
          refine (placed_any 3 x.pos _).mono ?_
          rintro e w3 ⟨rfl, u3⟩
          have C := fail_r (HR.out.ext u3) (some (3, some (x.pos : Int))) (by simp) (fun k p h => by cases h; decide)
          have H3 := Lib.hid (HU.out.thenExt u3)
          clear u3
          go_wp2_with fail
          refine C.mono ?_
          rintro e w4 ⟨rfl, R4, u4⟩
          go_wp2_with fail
          go_ret
          exact ⟨by rw [HE.out]; rfl, by rw [HE.out]; exact R4, H3.out.trans (u4.mono (fun _ _ h => h))⟩
        · have hbig2 : decide (y.s.size < v) = false := by simp; omega
          have hvw : IntKind.i64.wrap (v : Int) = (v : Int) := IntWalk.i64_in _ (by omega)
          have C := take_r HR.out v x.pos (by omega) HP.out
          rw [← eT] at C
          clear hlim hbig eT
          go_wp2_with fail
          refine C.mono ?_
          rintro e w3 ⟨⟨ok, rfl⟩, R3, u3⟩
          go_wp2_with fail
          go_ret
          exact ⟨rfl, R3, HU.out.trans (u3.mono (fun _ _ h => h))⟩
    · rw [show y.f.isSome = true from by cases q : y.f <;> simp_all]
      have eT : T = ([], y) := by rw [← HT.out, if_pos hf]
      have HE := Lib.hid eT
      clear eT hf
      go_wp2_with fail
      go_ret
      exact ⟨by rw [HE.out]; rfl, by rw [HE.out]; exact HR.out, HU.out⟩
end Go.Proofs.YtljnhelnmnomoaaGreatDoor
