/- cartularyref02's Reader: Text by its contract; what a read of it answers. -/
import Derived.Test.YtkabomkikbdigaaDoorRefr3
namespace Go.Proofs.YtkabomkikbdigaaDoor
open Go.RowKit Go.Lib

theorem RefAt.var_ok {w : World} {b : Nat} {x : RdD} (h : RefAt w b x) : x.pos ≤ 9223372036854775807 := Nat.le_trans h.pos h.sz
set_option maxRecDepth 8000 in
set_option maxHeartbeats 2000000 in
theorem text_r {w : World} {b : Nat} {x : RdD} (h : RefAt w b x) (m : Int) (hm : m ≤ 9223372036854775807) :
    Calls Tryd.prog 59 #[.pointer (some ⟨b, 0, none⟩), .int .i64 m] w fun e w' => e = .returned (.string (str (x.text m).1)) ∧ RefAt w' b (x.text m).2 ∧ Upd (one b) w w' := by
  have HH := Lib.hid h
  by_cases hneg : m < 0
  · have e1 : x.text m = ([], x.fail (some (2, none))) := if_pos hneg
    rw [e1]
    have t1 : decide (m < 0) = true := by simpa using hneg
    clear h e1
    go_enter Tryd.func59, Tryd.ntmps59
    go_wp2_with fail
    refine (plain_any 2 _).mono ?_
    rintro e w1 ⟨rfl, u1⟩
    have C := fail_r (HH.out.ext u1) (some (2, none)) (by simp) (fun k p h => by cases h; decide)
    have H1 := Lib.hid u1
    clear u1
    go_wp2_with fail
    refine C.mono ?_
    rintro e w2 ⟨rfl, R2, u2⟩
    go_wp2_with fail
    go_ret
    exact ⟨rfl, R2, (Upd.ext H1.out _).trans (u2.mono (fun _ _ h => h))⟩
  · obtain ⟨n, rfl⟩ : ∃ n : Nat, m = n := ⟨m.toNat, by omega⟩
    have c1 : w.cell? ⟨b, 1, none⟩ = some (.int .i64 x.pos) := cell_of_blk h.blk 1
    have t0 : ¬ (n : Int) < 0 := hneg
    have CV := var_r h
    have HP := Lib.hid h.var_ok
    have e0 : x.text n = if x.var.2.f ≠ none then ([], x.var.2) else if (n : Int) < (x.var.1 : Int) then ([], x.var.2.fail (some (4, none))) else x.var.2.take x.var.1 x.pos := by
      unfold RdD.text
      rw [if_neg hneg]
      by_cases hf : x.f ≠ none
      · have e : x.var = (0, x) := by unfold RdD.var; rw [if_neg hf]
        rw [if_pos hf, e, if_pos hf]
      · rw [if_neg hf]
    rw [e0]
    have hv64 := var_small x
    have HVL := Lib.hid (var_le x)
    clear h e0 hneg
    generalize hy : x.var = y at *
    obtain ⟨v, y⟩ := y
    have HY := Lib.hid hy
    dsimp only at hv64 ⊢
    generalize hT : (if y.f ≠ none then ([], y) else if (n : Int) < (v : Int) then ([], y.fail (some (4, none))) else y.take v x.pos) = T
    have HT := Lib.hid hT
    clear hT
    go_enter Tryd.func59, Tryd.ntmps59
    go_wp2_with fail
    refine CV.mono ?_
    rintro e w1 ⟨he, R1, u1⟩
    rw [hy] at he R1
    subst he
    have HR := Lib.hid R1
    have HU := Lib.hid u1
    have CB := bad_r R1
    clear R1 u1 CV c1 hy
    go_wp2_with fail
    refine CB.mono ?_
    rintro e w2 ⟨rfl, rfl⟩
    clear CB
    by_cases hf : y.f = none
    · rw [show y.f.isSome = false from by simp [hf]]
      have hmw : IntKind.u64.wrap (n : Int) = (n : Int) := IntWalk.u64_in _ (by omega)
      by_cases hlim : (n : Int) < (v : Int)
      · have eT : T = ([], y.fail (some (4, none))) := by rw [← HT.out, if_neg (by simp [hf]), if_pos hlim]
        have HE := Lib.hid eT
        clear eT
        go_wp2_with fail
        refine (plain_any 4 _).mono ?_
        rintro e w3 ⟨rfl, u3⟩
        have C := fail_r (HR.out.ext u3) (some (4, none)) (by simp) (fun k p h => by cases h; decide)
        have H3 := Lib.hid (HU.out.thenExt u3)
        clear u3
        go_wp2_with fail
        refine C.mono ?_
        rintro e w4 ⟨rfl, R4, u4⟩
        go_wp2_with fail
        go_ret
        exact ⟨by rw [HE.out]; rfl, by rw [HE.out]; exact R4, H3.out.trans (u4.mono (fun _ _ h => h))⟩
      · have eT : T = y.take v x.pos := by rw [← HT.out, if_neg (by simp [hf]), if_neg hlim]
        have c0 : w1.cell? ⟨b, 0, none⟩ = some (.string y.s) := cell_of_blk HR.out.blk 0
        have hz := HR.out.sz
        have hsw : IntKind.u64.wrap (y.s.size : Int) = (y.s.size : Int) := IntWalk.u64_in _ (by omega)
        have hlim2 : decide (n < v) = false := by simp; omega
        by_cases hbig : y.s.size < v
        · have e2 : y.take v x.pos = ([], y.fail (some (3, some (x.pos : Int)))) := by
            unfold RdD.take
            rw [if_neg (fun h => by have := h.2; omega)]
          rw [e2] at eT
          have HE := Lib.hid eT
          clear hlim eT e2
          go_wp2_with fail
          refine (placed_any 3 x.pos _).mono ?_
          rintro e w3 ⟨rfl, u3⟩
          have C := fail_r (HR.out.ext u3) (some (3, some (x.pos : Int))) (by simp) (fun k p h => by cases h; decide)
          have H3 := Lib.hid (HU.out.thenExt u3)
          clear u3
          go_wp2_with fail
          refine C.mono ?_
          rintro e w4 ⟨rfl, R4, u4⟩
          go_wp2_with fail
          go_ret
          exact ⟨by rw [HE.out]; rfl, by rw [HE.out]; exact R4, H3.out.trans (u4.mono (fun _ _ h => h))⟩
        · have hbig2 : decide (y.s.size < v) = false := by simp; omega
          have hvw : IntKind.i64.wrap (v : Int) = (v : Int) := IntWalk.i64_in _ (by omega)
          have C := take_r HR.out v x.pos (by omega) HP.out
          rw [← eT] at C
          clear hlim hbig eT
          go_wp2_with fail
          refine C.mono ?_
          rintro e w3 ⟨⟨ok, rfl⟩, R3, u3⟩
          go_wp2_with fail
          go_ret
          exact ⟨rfl, R3, HU.out.trans (u3.mono (fun _ _ h => h))⟩
    · rw [show y.f.isSome = true from by cases q : y.f <;> simp_all]
      have eT : T = ([], y) := by rw [← HT.out, if_pos hf]
      have HE := Lib.hid eT
      clear eT hf
      go_wp2_with fail
      go_ret
      exact ⟨by rw [HE.out]; rfl, by rw [HE.out]; exact HR.out, HU.out⟩
end Go.Proofs.YtkabomkikbdigaaDoor
