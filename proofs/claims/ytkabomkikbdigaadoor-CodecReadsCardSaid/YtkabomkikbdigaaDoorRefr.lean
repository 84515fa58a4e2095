/- cartularyref02's Reader: bad, fail, take, Left, End by contracts. It stands at a RdD as the program's reader does. -/
import Derived.Test.YtkabomkikbdigaaDoorForms2
import Derived.Test.YtkabomkikbdigaaDoorForm
import Derived.Test.YtkabomkikbdigaaDoorStep
namespace Go.Proofs.YtkabomkikbdigaaDoor
open Go.RowKit Go.Lib

abbrev refRow (x : RdD) : Array Value := #[.string x.s, .int .i64 (x.pos : Int), .int .i64 (faultC x.f), .int .i64 (faultA x.f)]
/-- The document's reader at block b stands at x. -/
structure RefAt (w : World) (b : Nat) (x : RdD) : Prop where
  blk : w.heap[b]? = some (.cells (refRow x) 66 (0, 0))
  pos : x.pos ≤ x.s.size
  sz : x.s.size ≤ 9223372036854775807
  code : ∀ k p, x.f = some (k, p) → 1 ≤ k
theorem RefAt.upd {w w' : World} {b : Nat} {x : RdD} {S : Nat → Prop} (h : RefAt w b x) (u : Upd S w w') (hS : ¬ S b) : RefAt w' b x := ⟨u.blk h.blk hS, h.pos, h.sz, h.code⟩
theorem RefAt.ext {w w' : World} {b : Nat} {x : RdD} (h : RefAt w b x) (u : Ext w w') : RefAt w' b x := h.upd u id
theorem RefAt.nz {w : World} {b : Nat} {x : RdD} (h : RefAt w b x) : (faultC x.f != 0) = x.f.isSome := by
  cases hf : x.f with
  | none => rfl
  | some p =>
    obtain ⟨k, p⟩ := p
    have := h.code k p hf
    simp [faultC]
    omega
theorem fault_size2 : (Tryd.prog.info? 39).map (·.size) = some 2 := by kernel_rfl
theorem bad_r {w : World} {b : Nat} {x : RdD} (h : RefAt w b x) : Calls Tryd.prog 61 #[.pointer (some ⟨b, 0, none⟩)] w fun e w' => e = .returned (.bool x.f.isSome) ∧ w = w' := by
  have c2 : w.cell? ⟨b, 2, none⟩ = some (.int .i64 (faultC x.f)) := cell_of_blk h.blk 2
  have t := h.nz
  clear h
  go_enter Tryd.func61, Tryd.ntmps61
  go_wp2
  go_ret
  exact ⟨rfl, rfl⟩
theorem fail_r {w : World} {b : Nat} {x : RdD} (h : RefAt w b x) (e2 : EV) (h2 : e2 ≠ none) (hc : ∀ k p, e2 = some (k, p) → 1 ≤ k) :
    Calls Tryd.prog 65 #[.pointer (some ⟨b, 0, none⟩), faultV e2] w fun e w' => e = .returned (.tuple #[]) ∧ RefAt w' b (x.fail e2) ∧ Upd (one b) w w' := by
  have X := (Upd.refl none' w).alloc (.cells #[.int .i64 (faultC e2), .int .i64 (faultA e2)] 39)
  have hb := blk_alloc w (.cells #[.int .i64 (faultC e2), .int .i64 (faultA e2)] 39)
  have k0 : (w.alloc (.cells #[.int .i64 (faultC e2), .int .i64 (faultA e2)] 39)).cell? ⟨w.heap.size, 0, none⟩ = some (.int .i64 (faultC e2)) := cell_of_blk hb 0
  have k1 : (w.alloc (.cells #[.int .i64 (faultC e2), .int .i64 (faultA e2)] 39)).cell? ⟨w.heap.size, 1, none⟩ = some (.int .i64 (faultA e2)) := cell_of_blk hb 1
  have h1 := h.ext X
  have C := bad_r h1
  have HH := Lib.hid h
  have H1 := Lib.hid h1
  have HX := Lib.hid X
  by_cases hf : x.f = none
  · rw [show x.f.isSome = false from by simp [hf]] at C
    have e1 : x.fail e2 = { x with f := e2 } := by unfold RdD.fail; rw [if_pos hf]
    rw [e1]
    have c2 := cell_of_blk h1.blk 2
    have c3 := cell_of_blk h1.blk 3
    have f2 := free_of_blk h1.blk 2
    have f3 := free_of_blk h1.blk 3
    have c2 : (w.alloc (.cells #[.int .i64 (faultC e2), .int .i64 (faultA e2)] 39)).cell? ⟨b, 2, none⟩ = some (.int .i64 (faultC x.f)) := c2
    have c3 : (w.alloc (.cells #[.int .i64 (faultC e2), .int .i64 (faultA e2)] 39)).cell? ⟨b, 3, none⟩ = some (.int .i64 (faultA x.f)) := c3
    clear h h1 X hf e1 hb
    go_enter Tryd.func65, Tryd.ntmps65
    go_wp2_with fail
    refine C.mono ?_
    rintro e w1 ⟨rfl, rfl⟩
    go_wp2_with fail
    go_end0
    have b2 := blk_set (blk_set H1.out.blk 2 (.int .i64 (faultC e2))) 3 (.int .i64 (faultA e2))
    exact ⟨rfl, ⟨b2, HH.out.pos, HH.out.sz, hc⟩, ((Upd.ext HX.out (one b)).setCell (p := ⟨b, 2, none⟩) (.inr (show one b b from rfl)) _).setCell (p := ⟨b, 3, none⟩) (.inr (show one b b from rfl)) _⟩
  · rw [show x.f.isSome = true from by cases q : x.f <;> simp_all] at C
    have e1 : x.fail e2 = x := fail_keep x e2 hf
    rw [e1]
    clear h h1 X hf e1 hb
    go_enter Tryd.func65, Tryd.ntmps65
    go_wp2_with fail
    refine C.mono ?_
    rintro e w1 ⟨rfl, rfl⟩
    go_wp2_with fail
    go_end0
    exact ⟨rfl, H1.out, Upd.ext HX.out _⟩
theorem placed_r (c a : Int) (w : World) : Calls Tryd.prog 55 #[.int .i64 c, .int .i64 a] w fun e w' => e = .returned (.agg #[.int .i64 c, .int .i64 a]) ∧ Ext w w' := placed_any c a w
set_option maxHeartbeats 1000000 in
theorem take_r {w : World} {b : Nat} {x : RdD} (h : RefAt w b x) (n : Nat) (src : Nat) (hn : n ≤ 9223372036854775807) (hs : src ≤ 9223372036854775807) :
    Calls Tryd.prog 66 #[.pointer (some ⟨b, 0, none⟩), .int .i64 n, .int .i64 src] w fun e w' => (∃ ok, e = .returned (.tuple #[.string (str (x.take n src).1), .bool ok])) ∧ RefAt w' b (x.take n src).2 ∧ Upd (one b) w w' := by
  have c0 : w.cell? ⟨b, 0, none⟩ = some (.string x.s) := cell_of_blk h.blk 0
  have c1 : w.cell? ⟨b, 1, none⟩ = some (.int .i64 x.pos) := cell_of_blk h.blk 1
  have f1 := free_of_blk h.blk 1
  have C := bad_r h
  have hp := h.pos
  have hz := h.sz
  have HH := Lib.hid h
  by_cases hf : x.f = none
  · rw [show x.f.isSome = false from by simp [hf]] at C
    by_cases hc : x.pos + n ≤ x.s.size
    · have e1 : x.take n src = (x.rest.take n, { x with pos := x.pos + n }) := if_pos ⟨hf, hc⟩
      rw [e1]
      have t1 : decide ((x.s.size : Int) - (x.pos : Int) < (n : Int)) = false := by simp; omega
      have hx : x.s.extract x.pos (x.pos + n) = str (x.rest.take n) := extract_str x.s x.pos n hc
      clear h hf e1
      go_enter Tryd.func66, Tryd.ntmps66
      go_wp2_with fail
      refine C.mono ?_
      rintro e w1 ⟨rfl, rfl⟩
      go_wp2_with fail
      go_quiet (fail)
      go_wp2_with fail
      go_quiet (fail)
      go_wp2_with fail
      go_ret2
      rw [hx]
      have U := fun k => (((Upd.refl (one b) w).drewN k).setCell (p := ⟨b, 1, none⟩) (.inr (show one b b from rfl)) (.int .i64 ((x.pos : Int) + n)))
      have B3 : ∀ k, ((w.drewN k).setCell ⟨b, 1, none⟩ (.int .i64 ((x.pos : Int) + n))).heap[b]? = some (.cells #[.string x.s, .int .i64 ((x.pos : Int) + n), .int .i64 (faultC x.f), .int .i64 (faultA x.f)] 66 (0, 0)) := fun k => by
        simpa using blk_set (w := w.drewN k) HH.out.blk 1 (.int .i64 ((x.pos : Int) + n))
      exact ⟨⟨_, rfl⟩, ⟨B3 _, hc, hz, HH.out.code⟩, U _⟩
    · have e1 : x.take n src = ([], x.fail (some (3, some (src : Int)))) := if_neg (fun h => hc h.2)
      rw [e1]
      have t1 : decide ((x.s.size : Int) - (x.pos : Int) < (n : Int)) = true := by simp; omega
      clear h hf e1
      go_enter Tryd.func66, Tryd.ntmps66
      go_wp2_with fail
      refine C.mono ?_
      rintro e w1 ⟨rfl, rfl⟩
      go_wp2_with fail
      go_quiet (fail)
      go_wp2_with fail
      refine (placed_any 3 src _).mono ?_
      rintro e w2 ⟨rfl, u2⟩
      have X2 := Lib.hid (show Ext w w2 from ((Upd.refl none' w).drewN _).thenExt u2)
      have C2 := fail_r (HH.out.ext X2.out) (some (3, some (src : Int))) (by simp) (fun k p h => by cases h; decide)
      clear u2
      go_wp2_with fail
      refine C2.mono ?_
      rintro e w3 ⟨rfl, R3, u3⟩
      go_wp2_with fail
      go_ret2
      exact ⟨⟨false, rfl⟩, R3, (Upd.ext X2.out _).trans (u3.mono (fun _ _ h => h))⟩
  · rw [show x.f.isSome = true from by cases q : x.f <;> simp_all] at C
    have e1 : x.take n src = ([], x) := by
      unfold RdD.take
      rw [if_neg (fun h => hf h.1), fail_keep x _ hf]
    rw [e1]
    clear h hf e1
    go_enter Tryd.func66, Tryd.ntmps66
    go_wp2_with fail
    refine C.mono ?_
    rintro e w1 ⟨rfl, rfl⟩
    go_wp2_with fail
    go_ret2
    exact ⟨⟨false, rfl⟩, HH.out, Upd.refl _ _⟩
theorem left_r {w : World} {b : Nat} {x : RdD} (h : RefAt w b x) :
    Calls Tryd.prog 33 #[.pointer (some ⟨b, 0, none⟩)] w fun e w' => e = .returned (.int .i64 x.left) ∧ Ext w w' := by
  have c0 : w.cell? ⟨b, 0, none⟩ = some (.string x.s) := cell_of_blk h.blk 0
  have c1 : w.cell? ⟨b, 1, none⟩ = some (.int .i64 x.pos) := cell_of_blk h.blk 1
  have C := bad_r h
  have hp := h.pos
  have hz := h.sz
  by_cases hf : x.f = none
  · rw [show x.f.isSome = false from by simp [hf]] at C
    have e1 : x.left = (x.s.size : Int) - x.pos := if_pos hf
    rw [e1]
    clear h hf e1
    go_enter Tryd.func33, Tryd.ntmps33
    go_wp2_with fail
    refine C.mono ?_
    rintro e w1 ⟨rfl, rfl⟩
    go_wp2_with fail
    go_quiet (fail)
    go_wp2_with fail
    go_ret
    exact ⟨rfl, (Upd.refl none' w).drewN _⟩
  · rw [show x.f.isSome = true from by cases q : x.f <;> simp_all] at C
    have e1 : x.left = 0 := if_neg hf
    rw [e1]
    clear h hf e1
    go_enter Tryd.func33, Tryd.ntmps33
    go_wp2_with fail
    refine C.mono ?_
    rintro e w1 ⟨rfl, rfl⟩
    go_wp2_with fail
    go_ret
    exact ⟨rfl, Upd.refl _ _⟩
theorem end_r {w : World} {b : Nat} {x : RdD} (h : RefAt w b x) :
    Calls Tryd.prog 34 #[.pointer (some ⟨b, 0, none⟩)] w fun e w' => e = .returned (faultV x.fin) ∧ Ext w w' := by
  have X := (Upd.refl none' w).alloc (.cells #[.int .i64 0, .int .i64 0] 39)
  have h1 := h.ext X
  have c0 : (w.alloc (.cells #[.int .i64 0, .int .i64 0] 39)).cell? ⟨b, 0, none⟩ = some (.string x.s) := cell_of_blk h1.blk 0
  have c1 : (w.alloc (.cells #[.int .i64 0, .int .i64 0] 39)).cell? ⟨b, 1, none⟩ = some (.int .i64 x.pos) := cell_of_blk h1.blk 1
  have c2 : (w.alloc (.cells #[.int .i64 0, .int .i64 0] 39)).cell? ⟨b, 2, none⟩ = some (.int .i64 (faultC x.f)) := cell_of_blk h1.blk 2
  have c3 : (w.alloc (.cells #[.int .i64 0, .int .i64 0] 39)).cell? ⟨b, 3, none⟩ = some (.int .i64 (faultA x.f)) := cell_of_blk h1.blk 3
  have C := fun k => (bad_r (h1.ext (ext_drewN _ k))).mono (R' := fun e w' => e = .returned (.bool x.f.isSome) ∧ w' = (w.alloc (.cells #[.int .i64 0, .int .i64 0] 39)).drewN k) (fun _ _ ⟨p, q⟩ => ⟨p, q.symm⟩)
  have hp := h.pos
  have hz := h.sz
  have HX := Lib.hid X
  by_cases hf : x.f = none
  · rw [show x.f.isSome = false from by simp [hf]] at C
    have HC := Lib.hid C
    by_cases hlt : x.pos < x.s.size
    · have e1 : x.fin = some (3, some (x.pos : Int)) := if_pos ⟨hf, hlt⟩
      rw [e1]
      have hlti : (x.pos : Int) < (x.s.size : Int) := by omega
      clear h h1 X C hf e1
      go_enter Tryd.func34, Tryd.ntmps34
      go_wp2_with fail
      go_quiet ((go_at_call 61; exact Calls.quiet_of_same (HC.out _)))
      go_wp2_with fail
      refine (placed_any 3 x.pos _).mono ?_
      rintro e w2 ⟨rfl, u2⟩
      have X2 := (ext_drewN (w.alloc (.cells #[.int .i64 0, .int .i64 0] 39)) _).thenExt u2
      have hz2 := Ext.blk X2 (blk_alloc w (.cells #[.int .i64 0, .int .i64 0] 39))
      have k0 : w2.cell? ⟨w.heap.size, 0, none⟩ = some (.int .i64 0) := cell_of_blk hz2 0
      have k1 : w2.cell? ⟨w.heap.size, 1, none⟩ = some (.int .i64 0) := cell_of_blk hz2 1
      have g0 := free_of_blk hz2 0
      have g1 := free_of_blk hz2 1
      have HZ := Lib.hid (blk_set (blk_set hz2 0 (.int .i64 3)) 1 (.int .i64 (x.pos : Int)))
      have A := ((Upd.setCell (p := ⟨w.heap.size, 0, none⟩) (HX.out.thenExt X2) (.inl (Nat.le_refl _)) (.int .i64 3)).setCell (p := ⟨w.heap.size, 1, none⟩) (.inl (Nat.le_refl _)) (.int .i64 (x.pos : Int)))
      have HA := Lib.hid A
      clear X2 hz2 u2 A
      go_wp2_with fail
      exact bodyPost_ret (v := faultV (some (3, some (x.pos : Int)))) (results_cell_row rfl _ _ w.heap.size 39 #[.int .i64 3, .int .i64 (x.pos : Int)] (0, 0) _ rfl HZ.out Tryd.underlying39 rfl fault_size2) rfl ⟨rfl, HA.out⟩
    · have e1 : x.fin = x.f := if_neg (fun h => hlt h.2)
      rw [e1]
      have hlti : ¬ (x.pos : Int) < (x.s.size : Int) := by omega
      have HF := Lib.hid hf
      have HZ := Lib.hid (fun k => blk_set (blk_set (w := (w.alloc (.cells #[.int .i64 0, .int .i64 0] 39)).drewN k) (blk_alloc w (.cells #[.int .i64 0, .int .i64 0] 39)) 0 (.int .i64 (faultC x.f))) 1 (.int .i64 (faultA x.f)))
      have HA := Lib.hid (fun k => ((Upd.setCell (p := ⟨w.heap.size, 0, none⟩) (X.thenExt (ext_drewN _ k)) (.inl (Nat.le_refl _)) (.int .i64 (faultC x.f))).setCell (p := ⟨w.heap.size, 1, none⟩) (.inl (Nat.le_refl _)) (.int .i64 (faultA x.f))))
      clear h h1 X C hf e1
      go_enter Tryd.func34, Tryd.ntmps34
      go_wp2_with fail
      go_quiet ((go_at_call 61; exact Calls.quiet_of_same (HC.out _)))
      go_wp2_with fail
      exact bodyPost_ret (v := faultV x.f) (results_cell_row rfl _ _ w.heap.size 39 #[.int .i64 (faultC x.f), .int .i64 (faultA x.f)] (0, 0) _ rfl (HZ.out _) Tryd.underlying39 rfl fault_size2) rfl ⟨rfl, HA.out _⟩
  · rw [show x.f.isSome = true from by cases q : x.f <;> simp_all] at C
    have HC := Lib.hid C
    have e1 : x.fin = x.f := if_neg (fun h => hf h.1)
    rw [e1]
    have HZ := Lib.hid (fun k => blk_set (blk_set (w := (w.alloc (.cells #[.int .i64 0, .int .i64 0] 39)).drewN k) (blk_alloc w (.cells #[.int .i64 0, .int .i64 0] 39)) 0 (.int .i64 (faultC x.f))) 1 (.int .i64 (faultA x.f)))
    have HA := Lib.hid (fun k => ((Upd.setCell (p := ⟨w.heap.size, 0, none⟩) (X.thenExt (ext_drewN _ k)) (.inl (Nat.le_refl _)) (.int .i64 (faultC x.f))).setCell (p := ⟨w.heap.size, 1, none⟩) (.inl (Nat.le_refl _)) (.int .i64 (faultA x.f))))
    clear h h1 X C hf e1
    go_enter Tryd.func34, Tryd.ntmps34
    go_wp2_with fail
    go_quiet ((go_at_call 61; exact Calls.quiet_of_same (HC.out _)))
    go_wp2_with fail
    exact bodyPost_ret (v := faultV x.f) (results_cell_row rfl _ _ w.heap.size 39 #[.int .i64 (faultC x.f), .int .i64 (faultA x.f)] (0, 0) _ rfl (HZ.out _) Tryd.underlying39 rfl fault_size2) rfl ⟨rfl, HA.out _⟩
end Go.Proofs.YtkabomkikbdigaaDoor
