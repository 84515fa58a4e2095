/- codec.Reader: Text, Fixed, Hash by contracts. -/
import Derived.Test.YtkabomkikbdigaaDoorReader4
namespace Go.Proofs.YtkabomkikbdigaaDoor
open Go.RowKit Go.Lib

/-- The next text, of at most so many bytes. -/
def RdD.text (x : RdD) (most : Int) : List UInt8 × RdD :=
  if most < 0 then ([], x.fail (some (2, none))) else
  if x.f ≠ none then ([], x) else
  if x.var.2.f ≠ none then ([], x.var.2) else
  if most < (x.var.1 : Int) then ([], x.var.2.fail (some (4, none))) else x.var.2.take x.var.1 x.pos
theorem fail_isNone (x : RdD) (e : EV) (h : e ≠ none) : (x.fail e).f.isNone = false := by
  unfold RdD.fail
  split
  · cases e <;> simp_all
  · cases hf : x.f <;> simp_all
theorem sv_in (se : Nat → Addr) (k : Nat) (S : Nat → Prop) : ErrIn (sv se k) S := fun p hp => by simp [sv] at hp
theorem numGo_lt (f : Nat) (first : Bool) (l : List UInt8) (n k : Nat) (h : numGo (f + 1) first l = some (n, k)) : n < 2 ^ (7 * f + 1) ∧ 1 ≤ k ∧ k ≤ l.length := by
  induction f generalizing first l n k with
  | zero =>
    cases l with
    | nil => simp [numGo] at h
    | cons c l =>
      unfold numGo at h
      split at h
      · cases h
      · rename_i hb
        split at h
        · cases h
          exact ⟨by rcases Nat.lt_or_ge 1 c.toNat with h1 | h1; · exact absurd (.inl ⟨rfl, h1⟩) hb
                    simp; omega, by omega, by simp⟩
        · simp [numGo] at h
  | succ f ih =>
    cases l with
    | nil => simp [numGo] at h
    | cons c l =>
      rw [numGo] at h
      split at h
      · cases h
      · split at h
        · cases h
          have : (2 : Nat) ^ 8 ≤ 2 ^ (7 * (f + 1) + 1) := Nat.pow_le_pow_right (by omega) (by omega)
          exact ⟨by have e : (2 : Nat) ^ 8 = 256 := rfl; omega, by omega, by simp⟩
        · cases hn : numGo (f + 1) false l with
          | none => rw [hn] at h; cases h
          | some p =>
            obtain ⟨m, q⟩ := p
            rw [hn] at h
            simp only [Option.map_some, Option.some.injEq, Prod.mk.injEq] at h
            obtain ⟨rfl, rfl⟩ := h
            have := ih false l m q hn
            refine ⟨?_, by omega, by simp; omega⟩
            rw [show 7 * (f + 1) + 1 = (7 * f + 1) + 7 from by omega, Nat.pow_add]
            have e : (2 : Nat) ^ 7 = 128 := rfl
            omega
theorem var_lt (x : RdD) : x.var.1 < 18446744073709551616 := by
  unfold RdD.var
  split
  · cases hn : numB x.rest with
    | none => simp
    | some p => obtain ⟨n, k⟩ := p; exact (numGo_lt 9 true x.rest n k hn).1
  · simp
theorem var_pos (x : RdD) (h : x.var.2.f = none) (hx : x.f = none) (hp : x.pos ≤ x.s.size) : x.var.2.pos ≤ x.s.size ∧ x.var.2.s = x.s := by
  unfold RdD.var at *
  rw [if_pos hx] at *
  cases hn : numB x.rest with
  | none => rw [hn] at h; simp at h
  | some p =>
    obtain ⟨n, k⟩ := p
    have := (numGo_lt 9 true x.rest n k hn).2.2
    have e : x.s.data.size = x.s.size := rfl
    simp [RdD.rest] at this
    exact ⟨by simp; omega, rfl⟩

set_option maxRecDepth 4000 in
set_option maxHeartbeats 1000000 in
theorem text_ok {B b : Nat} {se : Nat → Addr} {w : World} {S : Nat → Prop} {x : RdD} (G : Genv B se w) (h : Reader B se w S b x) (most : Int) (hm : most ≤ 9223372036854775807) :
    Calls Tryd.prog 25 #[.pointer (some ⟨b, 0, none⟩), .int .i64 most] w fun e w' => e = .returned (.string (str (x.text most).1)) ∧ Reader B se w' (plus S w.heap.size w'.heap.size) b (x.text most).2 ∧ Upd (one b) w w' := by
  have HG := Lib.hid G
  have HH := Lib.hid h
  have g2 := G.cell 2 (by decide) (by decide)
  have g4 := G.cell 4 (by decide) (by decide)
  by_cases hneg : most < 0
  · have e1 : x.text most = ([], x.fail (some (2, none))) := by unfold RdD.text; rw [if_pos hneg]
    rw [e1]
    have C := fail_ok h (sv se 2) (some (2, none)) ⟨by omega, by omega, rfl⟩ (by simp) (sv_in _ _ _)
    simp only [gno] at g2
    have hno := fail_isNone x (some (2, none)) (by simp)
    have HN := Lib.hid hno
    clear h e1 G g4 hno
    go_enter Tryd.func25, Tryd.ntmps25
    go_wp2_with fail
    refine C.mono ?_
    rintro e w1 ⟨rfl, h1, h2⟩
    have C2 := ready_ok h1
    rw [HN.out] at C2
    have H1 := Lib.hid (HH.out.grow HG.out.size _ h2.size h1 rfl)
    have H2 := Lib.hid h2
    clear h1 h2 C
    go_wp2_with (go_at_call 49; refine C2.mono ?_; rintro e w' ⟨rfl, rfl⟩)
    go_ret
    exact ⟨rfl, H1.out, H2.out⟩
  · have C := ready_ok h
    by_cases hf : x.f = none
    · rw [hf] at C
      obtain ⟨fv, a, hb, ha, hp, he, hi⟩ := h.ex
      have c1 := cell_of_blk hb 1
      have hap := hp hf
      subst hap
      have C2 := var_ok G h
      have hvl : x.var.1 < 18446744073709551616 := var_lt x
      have ht : x.text most = (if x.var.2.f ≠ none then ([], x.var.2) else if most < (x.var.1 : Int) then ([], x.var.2.fail (some (4, none))) else x.var.2.take x.var.1 x.pos) := by
        unfold RdD.text; rw [if_neg hneg, if_neg (by simp [hf])]
      simp only [gno] at g4
      by_cases hvf : x.var.2.f = none
      · rw [if_neg (by simp [hvf])] at ht
        by_cases hbig : most < (x.var.1 : Int)
        · rw [if_pos hbig] at ht
          rw [ht]
          have hno := fail_isNone x.var.2 (some (4, none)) (by simp)
          have HN := Lib.hid hno
          have HNF := Lib.hid hvf
          clear h hb he hp hi hf ht hvf hno G g2
          generalize x.var = v at *
          go_enter Tryd.func25, Tryd.ntmps25
          go_wp2_with (go_at_call 49; refine C.mono ?_; rintro e w' ⟨rfl, rfl⟩)
          refine C2.mono ?_
          rintro e w1 ⟨rfl, h1, h2⟩
          have G1 := HG.out.below (below_one h2 HG.out.size (HH.out.low b HH.out.mem))
          have k4 := G1.cell 4 (by decide) (by decide)
          simp only [gno] at k4
          have C3 := fail_ok h1 (sv se 4) (some (4, none)) ⟨by omega, by omega, rfl⟩ (by simp) (sv_in _ _ _)
          have H1 := Lib.hid h1
          have H2 := Lib.hid h2
          have HG1 := Lib.hid G1
          clear h1 h2 G1 C C2
          go_wp2_with fail
          refine C3.mono ?_
          rintro e w2 ⟨rfl, h3, h4⟩
          have C4 := ready_ok h3
          rw [HN.out] at C4
          have A := Lib.hid (HH.out.again HG.out.size H2.out (H1.out.grow HG1.out.size _ h4.size h3 rfl) h4)
          clear h3 h4 C3
          go_wp2_with (go_at_call 49; refine C4.mono ?_; rintro e w' ⟨rfl, rfl⟩)
          go_ret
          exact ⟨rfl, A.out⟩
        · rw [if_neg hbig] at ht
          rw [ht]
          have hle : (x.var.1 : Int) ≤ most := by omega
          have HNF := Lib.hid hvf
          clear h hb he hp hi hf ht hvf G g2 g4
          generalize x.var = v at *
          go_enter Tryd.func25, Tryd.ntmps25
          go_wp2_with (go_at_call 49; refine C.mono ?_; rintro e w' ⟨rfl, rfl⟩)
          refine C2.mono ?_
          rintro e w1 ⟨rfl, h1, h2⟩
          have G1 := HG.out.below (below_one h2 HG.out.size (HH.out.low b HH.out.mem))
          have C3 := ready_ok h1
          rw [HNF.out] at C3
          have C4 := take_ok G1 h1 v.1 (x.pos : Int) (by omega)
          have H1 := Lib.hid h1
          have H2 := Lib.hid h2
          clear h1 h2 G1 C C2
          go_wp2_with (go_at_call 49; refine C3.mono ?_; rintro e w' ⟨rfl, rfl⟩)
          refine C4.mono ?_
          rintro e w2 ⟨rfl, h3, h4⟩
          have A := Lib.hid (HH.out.again HG.out.size H2.out h3 h4)
          clear h3 h4
          go_wp2
          go_ret
          exact ⟨rfl, A.out⟩
      · rw [if_pos hvf] at ht
        rw [ht]
        have hz : x.var.1 = 0 := by
          unfold RdD.var at hvf ⊢
          rw [if_pos hf] at *
          cases hn : numB x.rest with
          | none => rfl
          | some p => rw [hn] at hvf; exact absurd hf hvf
        rw [hz] at C2
        have HNF := Lib.hid (show x.var.2.f.isNone = false from by cases h : x.var.2.f <;> simp_all)
        clear h hb he hp hi hf ht hvf G g2 g4 hz hvl
        generalize x.var.2 = v at *
        go_enter Tryd.func25, Tryd.ntmps25
        go_wp2_with (go_at_call 49; refine C.mono ?_; rintro e w' ⟨rfl, rfl⟩)
        refine C2.mono ?_
        rintro e w1 ⟨rfl, h1, h2⟩
        have C3 := ready_ok h1
        rw [HNF.out] at C3
        have H1 := Lib.hid h1
        have H2 := Lib.hid h2
        clear h1 h2 C C2
        go_wp2_with (go_at_call 49; refine C3.mono ?_; rintro e w' ⟨rfl, rfl⟩)
        go_ret
        exact ⟨rfl, H1.out, H2.out⟩
    · rw [show x.f.isNone = false from by cases h : x.f <;> simp_all] at C
      have e1 : x.text most = ([], x) := by unfold RdD.text; rw [if_neg hneg, if_pos hf]
      rw [e1]
      have HS := Lib.hid h.start
      clear h hf e1 G g2 g4
      go_enter Tryd.func25, Tryd.ntmps25
      go_wp2_with (go_at_call 49; refine C.mono ?_; rintro e w' ⟨rfl, rfl⟩)
      go_ret
      exact ⟨rfl, HS.out, Upd.refl _ _⟩
end Go.Proofs.YtkabomkikbdigaaDoor
