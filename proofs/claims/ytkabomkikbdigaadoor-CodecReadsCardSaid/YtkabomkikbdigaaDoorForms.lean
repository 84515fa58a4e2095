/- Plain laws of the codec's forms: what is written is read, what is read is written so and not otherwise. -/
import Derived.Test.YtkabomkikbdigaaDoorRdPlain
namespace Go.Proofs.YtkabomkikbdigaaDoor
open Go.RowKit Go.Lib

theorem numGo_pos : ∀ (f : Nat) (l : List UInt8) (n k : Nat), numGo f false l = some (n, k) → 1 ≤ n
  | 0, _, _, _, h => by simp [numGo] at h
  | f + 1, [], _, _, h => by simp [numGo] at h
  | f + 1, c :: l, n, k, h => by
    unfold numGo at h
    split at h
    · cases h
    · rename_i hb
      split at h
      · cases h
        rcases Nat.eq_zero_or_pos c.toNat with h0 | h0
        · exact absurd (.inr ⟨rfl, h0⟩) hb
        · exact h0
      · cases hg : numGo f false l with
        | none => rw [hg] at h; cases h
        | some p =>
          rw [hg] at h
          obtain ⟨n', k'⟩ := p
          cases h
          have := numGo_pos f l n' k' hg
          show 1 ≤ c.toNat % 128 + 128 * n'
          omega
/-- A number that has been read is written with the bytes that it had. -/
theorem var_back : ∀ (f : Nat) (first : Bool) (l : List UInt8) (n k : Nat), numGo f first l = some (n, k) → varN f n = l.take k ∧ k ≤ l.length
  | 0, _, _, _, _, h => by simp [numGo] at h
  | f + 1, _, [], _, _, h => by simp [numGo] at h
  | f + 1, first, c :: l, n, k, h => by
    have hc := c.toNat_lt
    unfold numGo at h
    split at h
    · cases h
    · split at h
      · rename_i h1
        cases h
        refine ⟨?_, by simp⟩
        unfold varN
        rw [if_pos (by omega)]
        simp
      · rename_i h1
        cases hg : numGo f false l with
        | none => rw [hg] at h; cases h
        | some p =>
          rw [hg] at h
          obtain ⟨n', k'⟩ := p
          cases h
          have hp := numGo_pos f l n' k' hg
          obtain ⟨e1, e2⟩ := var_back f false l n' k' hg
          refine ⟨?_, by simp; omega⟩
          unfold varN
          dsimp only
          rw [if_neg (by omega), show (c.toNat % 128 + 128 * n') / 128 = n' by omega, e1, List.take_succ_cons]
          congr 1
          rw [show (c.toNat % 128 + 128 * n') % 128 + 128 = c.toNat by omega]
          simp
/-- A number that has been written is read as what it was. -/
theorem var_read : ∀ (f : Nat) (first : Bool) (n : Nat) (r : List UInt8), n < 2 ^ (7 * f + 1) → (first = false → 1 ≤ n) → numGo (f + 1) first (varN (f + 1) n ++ r) = some (n, (varN (f + 1) n).length)
  | f, first, n, r, hn, h1 => by
    unfold varN
    split
    · rename_i h
      have e : (n.toUInt8).toNat = n := by simp [Nat.toUInt8, UInt8.toNat_ofNat']; omega
      show numGo (f + 1) first (n.toUInt8 :: r) = _
      unfold numGo
      rw [if_neg, if_pos (by omega), e]
      · rfl
      · rw [e]
        rintro (⟨rfl, h2⟩ | ⟨h2, h3⟩)
        · simp at hn; omega
        · have := h1 h2; omega
    · rename_i h
      match f, hn with
      | 0, hn => simp at hn; omega
      | f + 1, hn =>
        have e : ((n % 128 + 128).toUInt8).toNat = n % 128 + 128 := by simp [Nat.toUInt8, UInt8.toNat_ofNat']; omega
        have hd : n / 128 < 2 ^ (7 * f + 1) := by
          have e2 : 2 ^ (7 * (f + 1) + 1) = 2 ^ (7 * f + 1) * 128 := by rw [show 7 * (f + 1) + 1 = (7 * f + 1) + 7 by omega, Nat.pow_add]
          rw [e2] at hn
          exact Nat.div_lt_of_lt_mul (by omega)
        have ih := var_read f false (n / 128) r hd (fun _ => by omega)
        show numGo (f + 1 + 1) first ((n % 128 + 128).toUInt8 :: (varN (f + 1) (n / 128) ++ r)) = _
        unfold numGo
        rw [if_neg, if_neg (by omega), ih, e]
        · simp
          omega
        · rw [e]
          rintro (⟨h2, _⟩ | ⟨_, h3⟩) <;> omega
theorem numB_varB (n : Nat) (hn : n < 18446744073709551616) (r : List UInt8) : numB (varB n ++ r) = some (n, (varB n).length) := var_read 9 true n r hn (fun h => by cases h)
theorem varB_numB {l : List UInt8} {n k : Nat} (h : numB l = some (n, k)) : varB n = l.take k ∧ k ≤ l.length := var_back 10 true l n k h
theorem beNum_go (k n a : Nat) : (fixB k n).foldl (fun n c => n * 256 + c.toNat) a = a * 2 ^ (8 * k) + n % 2 ^ (8 * k) := by
  induction k generalizing a with
  | zero => simp [fixB, Nat.mod_one]
  | succ k ih =>
    have e : ((n / 2 ^ (8 * k) % 256).toUInt8).toNat = n / 2 ^ (8 * k) % 256 := by simp [Nat.toUInt8, UInt8.toNat_ofNat']
    have p : 2 ^ (8 * (k + 1)) = 2 ^ (8 * k) * 256 := by rw [show 8 * (k + 1) = 8 * k + 8 by omega, Nat.pow_add]
    simp only [fixB, List.foldl_cons, e, ih, p]
    have m := Nat.mod_mul (x := n) (a := 2 ^ (8 * k)) (b := 256)
    rw [m, Nat.add_mul, Nat.mul_comm (n / 2 ^ (8 * k) % 256), Nat.mul_assoc, Nat.mul_comm 256]
    omega
theorem beNum_fixB (k n : Nat) (h : n < 2 ^ (8 * k)) : beNum (fixB k n) = n := by
  unfold beNum
  rw [beNum_go, Nat.zero_mul, Nat.zero_add, Nat.mod_eq_of_lt h]
theorem fixB_add (k a n : Nat) : fixB k (a * 2 ^ (8 * k) + n) = fixB k n := by
  have key : ∀ j, j ≤ k → fixB j (a * 2 ^ (8 * k) + n) = fixB j n := by
    intro j
    induction j with
    | zero => intro _; rfl
    | succ j ih =>
      intro hj
      have e : (a * 2 ^ (8 * k) + n) / 2 ^ (8 * j) % 256 = n / 2 ^ (8 * j) % 256 := by
        have p : 2 ^ (8 * k) = 2 ^ (8 * j) * (256 * 2 ^ (8 * (k - j - 1))) := by
          rw [show (256 : Nat) = 2 ^ 8 from rfl, ← Nat.pow_add, ← Nat.pow_add]; congr 1; omega
        rw [p, show a * (2 ^ (8 * j) * (256 * 2 ^ (8 * (k - j - 1)))) + n = n + 2 ^ (8 * j) * (256 * (2 ^ (8 * (k - j - 1)) * a)) by
          rw [Nat.mul_comm a, Nat.mul_assoc, Nat.mul_assoc, Nat.add_comm], Nat.add_mul_div_left _ _ (Nat.two_pow_pos _)]
        omega
      simp only [fixB, e, ih (by omega)]
  exact key k (Nat.le_refl _)
theorem beNum_cons (c : UInt8) (l : List UInt8) : beNum (c :: l) = c.toNat * 2 ^ (8 * l.length) + beNum l := by
  have key : ∀ (l : List UInt8) (a : Nat), l.foldl (fun n c => n * 256 + c.toNat) a = a * 2 ^ (8 * l.length) + l.foldl (fun n c => n * 256 + c.toNat) 0 := by
    intro l
    induction l with
    | nil => intro a; simp
    | cons c l ih =>
      intro a
      simp only [List.foldl_cons, List.length_cons]
      rw [ih (a * 256 + c.toNat), ih (0 * 256 + c.toNat), show 8 * (l.length + 1) = 8 + 8 * l.length by omega, Nat.pow_add, show (2 : Nat) ^ 8 = 256 from rfl, Nat.add_mul, Nat.mul_assoc, Nat.zero_mul, Nat.zero_add]
      omega
  unfold beNum
  simp only [List.foldl_cons]
  rw [key, Nat.zero_mul, Nat.zero_add]
theorem fixB_beNum (l : List UInt8) : fixB l.length (beNum l) = l := by
  induction l with
  | nil => rfl
  | cons c l ih =>
    have h := beNum_lt l
    have hc := c.toNat_lt
    have p : (256 : Nat) ^ l.length = 2 ^ (8 * l.length) := by rw [Nat.pow_mul]
    rw [p] at h
    rw [beNum_cons, List.length_cons]
    simp only [fixB, fixB_add, ih]
    congr 1
    rw [Nat.mul_comm, Nat.mul_add_div (Nat.two_pow_pos _), Nat.div_eq_of_lt h, Nat.add_zero, Nat.mod_eq_of_lt hc]
    simp
end Go.Proofs.YtkabomkikbdigaaDoor
