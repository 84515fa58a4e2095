/- What a read of a reader is, as a form; and what a form is, read. -/
import Derived.Test.YtkabomkikbdigaaDoorForms
namespace Go.Proofs.YtkabomkikbdigaaDoor
open Go.RowKit Go.Lib

theorem rest_len (x : RdD) : x.rest.length = x.s.size - x.pos := by
  unfold RdD.rest
  rw [List.length_drop, Array.length_toList]; rfl
theorem take_rest (x : RdD) (k : Nat) : x.s.data.toList.take (x.pos + k) = x.s.data.toList.take x.pos ++ x.rest.take k := by
  unfold RdD.rest
  rw [List.take_add]
theorem take_get {x : RdD} {n : Nat} {src : Int} (h : (x.take n src).2.f = none) : x.f = none ∧ x.pos + n ≤ x.s.size ∧ x.take n src = (x.rest.take n, { x with pos := x.pos + n }) := by
  unfold RdD.take at h ⊢
  split at h
  · rename_i hc
    exact ⟨hc.1, hc.2, if_pos hc⟩
  · exact absurd h (fail_is x _ (by simp))
theorem take_short (x : RdD) (n : Nat) (src : Int) : (x.take n src).1.length ≤ n ∧ (x.take n src).1.length ≤ x.s.size := by
  unfold RdD.take
  split
  · simp [rest_len]; omega
  · simp
theorem take_no {x : RdD} {n : Nat} {src : Int} (h : (x.take n src).2.f ≠ none) : (x.take n src).1 = [] := by
  unfold RdD.take at h ⊢
  split at h
  · rename_i hc
    exact absurd hc.1 h
  · rename_i hc
    rw [if_neg hc]
theorem var_get {x : RdD} (h : x.var.2.f = none) : x.f = none ∧ ∃ n k, numB x.rest = some (n, k) ∧ x.var = (n, { x with pos := x.pos + k }) := by
  unfold RdD.var at h ⊢
  by_cases hf : x.f = none
  · rw [if_pos hf] at h ⊢
    cases hn : numB x.rest with
    | none => rw [hn] at h; simp at h
    | some p => obtain ⟨n, k⟩ := p; exact ⟨hf, n, k, rfl, rfl⟩
  · rw [if_neg hf] at h
    exact absurd h hf
theorem var_small (x : RdD) : x.var.1 < 18446744073709551616 := by
  unfold RdD.var
  split
  · split
    · rename_i n k hn
      exact (numGo_lt 9 true x.rest n k hn).1
    · simp
  · simp
theorem fixed_lt (x : RdD) (k : Int) : (x.fixed k).1 < 18446744073709551616 := by
  unfold RdD.fixed
  split
  · simp
  · rename_i hk
    split
    · simp
    · have h := beNum_lt (x.take k.toNat x.pos).1
      have h2 := (take_short x k.toNat x.pos).1
      have h3 : (256 : Nat) ^ (x.take k.toNat x.pos).1.length ≤ 256 ^ 8 := Nat.pow_le_pow_right (by omega) (by omega)
      have h4 : (256 : Nat) ^ 8 = 18446744073709551616 := by rfl
      show beNum (x.take k.toNat x.pos).1 < _
      omega
theorem text_len (x : RdD) (m : Int) : (x.text m).1.length ≤ x.s.size := by
  unfold RdD.text
  split
  · simp
  · split
    · simp
    · split
      · simp
      · split
        · simp
        · have := (take_short x.var.2 x.var.1 x.pos).2
          rw [(var_le x).s] at this
          exact this
theorem text_no {x : RdD} {m : Int} (h : (x.text m).2.f ≠ none) : (x.text m).1 = [] := by
  unfold RdD.text at h ⊢
  split
  · rfl
  · split
    · rfl
    · split
      · rfl
      · split
        · rfl
        · rename_i h1 h2 h3 h4
          rw [if_neg h1, if_neg h2, if_neg h3, if_neg h4] at h
          exact take_no h
theorem text_get {x : RdD} {m : Int} (h : (x.text m).2.f = none) : x.f = none ∧ ∃ n k, numB x.rest = some (n, k) ∧ (n : Int) ≤ m ∧ x.pos + k + n ≤ x.s.size ∧ x.text m = ((x.rest.drop k).take n, { x with pos := x.pos + k + n }) := by
  unfold RdD.text at h ⊢
  split at h
  · exact absurd h (fail_is x _ (by simp))
  · rename_i h1
    split at h
    · exact absurd h ‹_›
    · rename_i h2
      split at h
      · exact absurd h ‹_›
      · rename_i h3
        split at h
        · exact absurd h (fail_is _ _ (by simp))
        · rename_i h4
          have h3 : x.var.2.f = none := by simpa using h3
          obtain ⟨hf, n, k, hn, hv⟩ := var_get h3
          rw [hv] at h h4 h3
          obtain ⟨e1, e2, e3⟩ := take_get h
          refine ⟨hf, n, k, hn, by simpa using h4, e2, ?_⟩
          rw [if_neg h1, if_neg h2, hv]
          dsimp only at h3 h4 e3 ⊢
          rw [if_neg (by simpa using h3), if_neg h4, e3]
          simp [RdD.rest, List.drop_drop]
theorem fixed_get {x : RdD} {w : Int} (h : (x.fixed w).2.f = none) : x.f = none ∧ 1 ≤ w ∧ w ≤ 8 ∧ x.pos + w.toNat ≤ x.s.size ∧ x.fixed w = (beNum (x.rest.take w.toNat), { x with pos := x.pos + w.toNat }) := by
  unfold RdD.fixed at h ⊢
  split at h
  · exact absurd h (fail_is x _ (by simp))
  · rename_i h1
    split at h
    · exact absurd h ‹_›
    · rename_i h2
      obtain ⟨e1, e2, e3⟩ := take_get h
      refine ⟨e1, by omega, by omega, e2, ?_⟩
      rw [if_neg h1, if_neg h2, e3]
theorem hash_get {x : RdD} (h : x.hash.2.f = none) : x.f = none ∧ x.pos + 32 ≤ x.s.size ∧ x.hash = (x.rest.take 32, { x with pos := x.pos + 32 }) := by
  unfold RdD.hash at h ⊢
  split at h
  · exact absurd h ‹_›
  · rename_i h2
    obtain ⟨e1, e2, e3⟩ := take_get h
    refine ⟨e1, e2, ?_⟩
    rw [if_neg h2, e3]
    have : (x.rest.take 32).length = 32 := by rw [List.length_take, rest_len]; omega
    unfold hashOf
    rw [if_pos this]
theorem took_okD (x : RdD) (t : ThingD) (ht : t.Ok) (hs : x.s.size ≤ 9223372036854775807) : (tookD x t).1.Ok := by
  have z1 : (-9223372036854775808 : Int) ≤ 0 := by decide
  have z2 : (0 : Int) ≤ 9223372036854775807 := by decide
  have z3 : (0 : Nat) < 18446744073709551616 := by decide
  have z4 : (⟨#[]⟩ : ByteArray).size ≤ 9223372036854775807 := by decide
  unfold tookD
  split
  · exact ⟨z1, z2, z1, z2, fixed_lt x _, ht.wd1, ht.wd2, z4, rfl⟩
  · split
    · exact ⟨z1, z2, (show (-9223372036854775808 : Int) ≤ 1 by decide), (show (1 : Int) ≤ 9223372036854775807 by decide), var_small x, z1, z2, z4, rfl⟩
    · split
      · refine ⟨z1, z2, (show (-9223372036854775808 : Int) ≤ 2 by decide), (show (2 : Int) ≤ 9223372036854775807 by decide), z3, z1, z2, ?_, rfl⟩
        show (str (x.text t.wd).1).size ≤ _
        rw [str_size]
        exact Nat.le_trans (text_len x _) hs
      · exact ⟨z1, z2, (show (-9223372036854775808 : Int) ≤ 3 by decide), (show (3 : Int) ≤ 9223372036854775807 by decide), z3, z1, z2, z4, hash_len x⟩
theorem took_tlen (x : RdD) (t : ThingD) : (tookD x t).1.t.size ≤ x.s.size := by
  unfold tookD
  split
  · exact Nat.zero_le _
  · split
    · exact Nat.zero_le _
    · split
      · show (str (x.text t.wd).1).size ≤ _
        rw [str_size]; exact text_len x _
      · exact Nat.zero_le _
/-- What has been read is written with the bytes that it had. -/
theorem took_form {x : RdD} {t : ThingD} (h : (tookD x t).2.f = none) :
    formE (tookD x t).1 = none ∧ (tookD x t).2.pos ≤ x.s.size ∧ x.s.data.toList.take (tookD x t).2.pos = x.s.data.toList.take x.pos ++ formB (tookD x t).1 := by
  unfold tookD at h ⊢
  rcases kinds t with hk | hk | hk | hk
  · rw [if_pos hk] at h ⊢
    obtain ⟨e1, e2, e3, e4, e5⟩ := fixed_get h
    rw [e5]
    have hl : (x.rest.take t.wd.toNat).length = t.wd.toNat := by rw [List.length_take, rest_len]; omega
    have hb := beNum_lt (x.rest.take t.wd.toNat)
    rw [hl, show (256 : Nat) = 2 ^ 8 from rfl, ← Nat.pow_mul] at hb
    have hf : fits ({ zeroT 0 with n := beNum (x.rest.take t.wd.toNat), wd := t.wd } : ThingD) = true := by
      simp only [fits, Bool.and_eq_true, decide_eq_true_eq]
      exact ⟨⟨e2, e3⟩, Nat.div_eq_of_lt hb⟩
    refine ⟨by unfold formE; rw [hf]; simp, e4, ?_⟩
    have : formB ({ zeroT 0 with n := beNum (x.rest.take t.wd.toNat), wd := t.wd } : ThingD) = fixB t.wd.toNat (beNum (x.rest.take t.wd.toNat)) := by
      unfold formB
      rw [if_pos (by rfl), hf]; rfl
    rw [this]
    have h3 := fixB_beNum (x.rest.take t.wd.toNat)
    rw [hl] at h3
    rw [h3]
    exact take_rest x _
  · rw [if_neg (by omega), if_pos hk] at h ⊢
    obtain ⟨e1, n, k, e2, e3⟩ := var_get h
    obtain ⟨e4, e5⟩ := varB_numB e2
    rw [e3]
    rw [rest_len] at e5
    have hpos : x.pos + k ≤ x.s.size := by
      have := (numGo_lt 9 true x.rest n k e2).2.1
      omega
    exact ⟨rfl, hpos, by rw [show formB ({ zeroT 1 with n := n } : ThingD) = varB n from rfl, e4]; exact take_rest x _⟩
  · rw [if_neg (by omega), if_neg (by omega), if_pos hk] at h ⊢
    obtain ⟨e1, n, k, e2, _, e4, e5⟩ := text_get h
    obtain ⟨e6, e7⟩ := varB_numB e2
    rw [e5]
    have hl : ((x.rest.drop k).take n).length = n := by rw [List.length_take, List.length_drop, rest_len]; omega
    refine ⟨rfl, e4, ?_⟩
    rw [show formB ({ zeroT 2 with t := str ((x.rest.drop k).take n) } : ThingD) = varB (str ((x.rest.drop k).take n)).size ++ (x.rest.drop k).take n from rfl, str_size, hl, e6]
    show x.s.data.toList.take (x.pos + k + n) = _
    rw [Nat.add_assoc, take_rest, List.take_add]
  · rw [if_neg (by omega), if_neg (by omega), if_neg (by omega)] at h ⊢
    obtain ⟨e1, e2, e3⟩ := hash_get h
    rw [e3]
    refine ⟨rfl, e2, ?_⟩
    rw [show formB ({ zeroT 3 with h := x.rest.take 32 } : ThingD) = x.rest.take 32 from rfl]
    exact take_rest x _
/-- Where a fault is told, what is answered is short. -/
theorem took_short {x : RdD} {t : ThingD} (h : (tookD x t).2.f ≠ none) : (tookD x t).1.t.size = 0 := by
  unfold tookD at h ⊢
  split
  · rfl
  · split
    · rfl
    · split
      · rename_i h1 h2 h3
        rw [if_neg h1, if_neg h2, if_pos h3] at h
        show (str (x.text t.wd).1).size = 0
        rw [text_no h]; rfl
      · rfl
end Go.Proofs.YtkabomkikbdigaaDoor
