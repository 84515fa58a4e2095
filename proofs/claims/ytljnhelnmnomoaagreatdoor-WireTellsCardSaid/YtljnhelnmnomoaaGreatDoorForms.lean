/- Plain laws of the codec's forms: what is written is read, what is read is written so and not otherwise. What a read of a reader is, as a form; and what a form is, read. -/
import Derived.Test.YtljnhelnmnomoaaGreatDoorTook
namespace Go.Proofs.YtljnhelnmnomoaaGreatDoor
open Go.RowKit Go.Lib


theorem numGo_pos : ∀ (f : Nat) (l : List UInt8) (n k : Nat), numGo f false l = some (n, k) → 1 ≤ n
  | 0, _, _, _, h => by simp [numGo] at h
  | f + 1, [], _, _, h => by simp [numGo] at h
  | f + 1, c :: l, n, k, h => by
    unfold numGo at h
    split at h
    · cases h
    · rename_i hb
      split at h
      · cases h
        rcases Nat.eq_zero_or_pos c.toNat with h0 | h0
        · exact absurd (.inr ⟨rfl, h0⟩) hb
        · exact h0
      · cases hg : numGo f false l with
        | none => rw [hg] at h; cases h
        | some p =>
          rw [hg] at h
          obtain ⟨n', k'⟩ := p
          cases h
          have := numGo_pos f l n' k' hg
          show 1 ≤ c.toNat % 128 + 128 * n'
          omega
/-- A number that has been read is written with the bytes that it had. -/
theorem var_back : ∀ (f : Nat) (first : Bool) (l : List UInt8) (n k : Nat), numGo f first l = some (n, k) → varN f n = l.take k ∧ k ≤ l.length
  | 0, _, _, _, _, h => by simp [numGo] at h
  | f + 1, _, [], _, _, h => by simp [numGo] at h
  | f + 1, first, c :: l, n, k, h => by
    have hc := c.toNat_lt
    unfold numGo at h
    split at h
    · cases h
    · split at h
      · rename_i h1
        cases h
        refine ⟨?_, by simp⟩
        unfold varN
        rw [if_pos (by omega)]
        simp
      · rename_i h1
        cases hg : numGo f false l with
        | none => rw [hg] at h; cases h
        | some p =>
          rw [hg] at h
          obtain ⟨n', k'⟩ := p
          cases h
          have hp := numGo_pos f l n' k' hg
          obtain ⟨e1, e2⟩ := var_back f false l n' k' hg
          refine ⟨?_, by simp; omega⟩
          unfold varN
          dsimp only
          rw [if_neg (by omega), show (c.toNat % 128 + 128 * n') / 128 = n' by omega, e1, List.take_succ_cons]
          congr 1
          rw [show (c.toNat % 128 + 128 * n') % 128 + 128 = c.toNat by omega]
          simp
/-- A number that has been written is read as what it was. -/
theorem var_read : ∀ (f : Nat) (first : Bool) (n : Nat) (r : List UInt8), n < 2 ^ (7 * f + 1) → (first = false → 1 ≤ n) → numGo (f + 1) first (varN (f + 1) n ++ r) = some (n, (varN (f + 1) n).length)
  | f, first, n, r, hn, h1 => by
    unfold varN
    split
    · rename_i h
      have e : (n.toUInt8).toNat = n := by simp [Nat.toUInt8, UInt8.toNat_ofNat']; omega
      show numGo (f + 1) first (n.toUInt8 :: r) = _
      unfold numGo
      rw [if_neg, if_pos (by omega), e]
      · rfl
      · rw [e]
        rintro (⟨rfl, h2⟩ | ⟨h2, h3⟩)
        · simp at hn; omega
        · have := h1 h2; omega
    · rename_i h
      match f, hn with
      | 0, hn => simp at hn; omega
      | f + 1, hn =>
        have e : ((n % 128 + 128).toUInt8).toNat = n % 128 + 128 := by simp [Nat.toUInt8, UInt8.toNat_ofNat']; omega
        have hd : n / 128 < 2 ^ (7 * f + 1) := by
          have e2 : 2 ^ (7 * (f + 1) + 1) = 2 ^ (7 * f + 1) * 128 := by rw [show 7 * (f + 1) + 1 = (7 * f + 1) + 7 by omega, Nat.pow_add]
          rw [e2] at hn
          exact Nat.div_lt_of_lt_mul (by omega)
        have ih := var_read f false (n / 128) r hd (fun _ => by omega)
        show numGo (f + 1 + 1) first ((n % 128 + 128).toUInt8 :: (varN (f + 1) (n / 128) ++ r)) = _
        unfold numGo
        rw [if_neg, if_neg (by omega), ih, e]
        · simp
          omega
        · rw [e]
          rintro (⟨h2, _⟩ | ⟨_, h3⟩) <;> omega
theorem numB_varB (n : Nat) (hn : n < 18446744073709551616) (r : List UInt8) : numB (varB n ++ r) = some (n, (varB n).length) := var_read 9 true n r hn (fun h => by cases h)
theorem varB_numB {l : List UInt8} {n k : Nat} (h : numB l = some (n, k)) : varB n = l.take k ∧ k ≤ l.length := var_back 10 true l n k h
theorem beNum_go (k n a : Nat) : (fixB k n).foldl (fun n c => n * 256 + c.toNat) a = a * 2 ^ (8 * k) + n % 2 ^ (8 * k) := by
  induction k generalizing a with
  | zero => simp [fixB, Nat.mod_one]
  | succ k ih =>
    have e : ((n / 2 ^ (8 * k) % 256).toUInt8).toNat = n / 2 ^ (8 * k) % 256 := by simp [Nat.toUInt8, UInt8.toNat_ofNat']
    have p : 2 ^ (8 * (k + 1)) = 2 ^ (8 * k) * 256 := by rw [show 8 * (k + 1) = 8 * k + 8 by omega, Nat.pow_add]
    simp only [fixB, List.foldl_cons, e, ih, p]
    have m := Nat.mod_mul (x := n) (a := 2 ^ (8 * k)) (b := 256)
    rw [m, Nat.add_mul, Nat.mul_comm (n / 2 ^ (8 * k) % 256), Nat.mul_assoc, Nat.mul_comm 256]
    omega
theorem beNum_fixB (k n : Nat) (h : n < 2 ^ (8 * k)) : beNum (fixB k n) = n := by
  unfold beNum
  rw [beNum_go, Nat.zero_mul, Nat.zero_add, Nat.mod_eq_of_lt h]
theorem fixB_add (k a n : Nat) : fixB k (a * 2 ^ (8 * k) + n) = fixB k n := by
  have key : ∀ j, j ≤ k → fixB j (a * 2 ^ (8 * k) + n) = fixB j n := by
    intro j
    induction j with
    | zero => intro _; rfl
    | succ j ih =>
      intro hj
      have e : (a * 2 ^ (8 * k) + n) / 2 ^ (8 * j) % 256 = n / 2 ^ (8 * j) % 256 := by
        have p : 2 ^ (8 * k) = 2 ^ (8 * j) * (256 * 2 ^ (8 * (k - j - 1))) := by
          rw [show (256 : Nat) = 2 ^ 8 from rfl, ← Nat.pow_add, ← Nat.pow_add]; congr 1; omega
        rw [p, show a * (2 ^ (8 * j) * (256 * 2 ^ (8 * (k - j - 1)))) + n = n + 2 ^ (8 * j) * (256 * (2 ^ (8 * (k - j - 1)) * a)) by
          rw [Nat.mul_comm a, Nat.mul_assoc, Nat.mul_assoc, Nat.add_comm], Nat.add_mul_div_left _ _ (Nat.two_pow_pos _)]
        omega
      simp only [fixB, e, ih (by omega)]
  exact key k (Nat.le_refl _)
theorem beNum_cons (c : UInt8) (l : List UInt8) : beNum (c :: l) = c.toNat * 2 ^ (8 * l.length) + beNum l := by
  have key : ∀ (l : List UInt8) (a : Nat), l.foldl (fun n c => n * 256 + c.toNat) a = a * 2 ^ (8 * l.length) + l.foldl (fun n c => n * 256 + c.toNat) 0 := by
    intro l
    induction l with
    | nil => intro a; simp
    | cons c l ih =>
      intro a
      simp only [List.foldl_cons, List.length_cons]
      rw [ih (a * 256 + c.toNat), ih (0 * 256 + c.toNat), show 8 * (l.length + 1) = 8 + 8 * l.length by omega, Nat.pow_add, show (2 : Nat) ^ 8 = 256 from rfl, Nat.add_mul, Nat.mul_assoc, Nat.zero_mul, Nat.zero_add]
      omega
  unfold beNum
  simp only [List.foldl_cons]
  rw [key, Nat.zero_mul, Nat.zero_add]
theorem fixB_beNum (l : List UInt8) : fixB l.length (beNum l) = l := by
  induction l with
  | nil => rfl
  | cons c l ih =>
    have h := beNum_lt l
    have hc := c.toNat_lt
    have p : (256 : Nat) ^ l.length = 2 ^ (8 * l.length) := by rw [Nat.pow_mul]
    rw [p] at h
    rw [beNum_cons, List.length_cons]
    simp only [fixB, fixB_add, ih]
    congr 1
    rw [Nat.mul_comm, Nat.mul_add_div (Nat.two_pow_pos _), Nat.div_eq_of_lt h, Nat.add_zero, Nat.mod_eq_of_lt hc]
    simp

theorem rest_len (x : RdD) : x.rest.length = x.s.size - x.pos := by
  unfold RdD.rest
  rw [List.length_drop, Array.length_toList]; rfl
theorem take_rest (x : RdD) (k : Nat) : x.s.data.toList.take (x.pos + k) = x.s.data.toList.take x.pos ++ x.rest.take k := by
  unfold RdD.rest
  rw [List.take_add]
theorem take_get {x : RdD} {n : Nat} {src : Int} (h : (x.take n src).2.f = none) : x.f = none ∧ x.pos + n ≤ x.s.size ∧ x.take n src = (x.rest.take n, { x with pos := x.pos + n }) := by
  unfold RdD.take at h ⊢
  split at h
  · rename_i hc
    exact ⟨hc.1, hc.2, if_pos hc⟩
  · exact absurd h (fail_is x _ (by simp))
theorem take_short (x : RdD) (n : Nat) (src : Int) : (x.take n src).1.length ≤ n ∧ (x.take n src).1.length ≤ x.s.size := by
  unfold RdD.take
  split
  · simp [rest_len]; omega
  · simp
theorem take_no {x : RdD} {n : Nat} {src : Int} (h : (x.take n src).2.f ≠ none) : (x.take n src).1 = [] := by
  unfold RdD.take at h ⊢
  split at h
  · rename_i hc
    exact absurd hc.1 h
  · rename_i hc
    rw [if_neg hc]
theorem var_get {x : RdD} (h : x.var.2.f = none) : x.f = none ∧ ∃ n k, numB x.rest = some (n, k) ∧ x.var = (n, { x with pos := x.pos + k }) := by
  unfold RdD.var at h ⊢
  by_cases hf : x.f = none
  · rw [if_pos hf] at h ⊢
    cases hn : numB x.rest with
    | none => rw [hn] at h; simp at h
    | some p => obtain ⟨n, k⟩ := p; exact ⟨hf, n, k, rfl, rfl⟩
  · rw [if_neg hf] at h
    exact absurd h hf
theorem var_small (x : RdD) : x.var.1 < 18446744073709551616 := by
  unfold RdD.var
  split
  · split
    · rename_i n k hn
      exact (numGo_lt 9 true x.rest n k hn).1
    · simp
  · simp
theorem fixed_lt (x : RdD) (k : Int) : (x.fixed k).1 < 18446744073709551616 := by
  unfold RdD.fixed
  split
  · simp
  · rename_i hk
    split
    · simp
    · have h := beNum_lt (x.take k.toNat x.pos).1
      have h2 := (take_short x k.toNat x.pos).1
      have h3 : (256 : Nat) ^ (x.take k.toNat x.pos).1.length ≤ 256 ^ 8 := Nat.pow_le_pow_right (by omega) (by omega)
      have h4 : (256 : Nat) ^ 8 = 18446744073709551616 := by rfl
      show beNum (x.take k.toNat x.pos).1 < _
      omega
theorem text_len (x : RdD) (m : Int) : (x.text m).1.length ≤ x.s.size := by
  unfold RdD.text
  split
  · simp
  · split
    · simp
    · split
      · simp
      · split
        · simp
        · have := (take_short x.var.2 x.var.1 x.pos).2
          rw [(var_le x).s] at this
          exact this
theorem text_no {x : RdD} {m : Int} (h : (x.text m).2.f ≠ none) : (x.text m).1 = [] := by
  unfold RdD.text at h ⊢
  split
  · rfl
  · split
    · rfl
    · split
      · rfl
      · split
        · rfl
        · rename_i h1 h2 h3 h4
          rw [if_neg h1, if_neg h2, if_neg h3, if_neg h4] at h
          exact take_no h
theorem text_get {x : RdD} {m : Int} (h : (x.text m).2.f = none) : x.f = none ∧ ∃ n k, numB x.rest = some (n, k) ∧ (n : Int) ≤ m ∧ x.pos + k + n ≤ x.s.size ∧ x.text m = ((x.rest.drop k).take n, { x with pos := x.pos + k + n }) := by
  unfold RdD.text at h ⊢
  split at h
  · exact absurd h (fail_is x _ (by simp))
  · rename_i h1
    split at h
    · exact absurd h ‹_›
    · rename_i h2
      split at h
      · exact absurd h ‹_›
      · rename_i h3
        split at h
        · exact absurd h (fail_is _ _ (by simp))
        · rename_i h4
          have h3 : x.var.2.f = none := by simpa using h3
          obtain ⟨hf, n, k, hn, hv⟩ := var_get h3
          rw [hv] at h h4 h3
          obtain ⟨e1, e2, e3⟩ := take_get h
          refine ⟨hf, n, k, hn, by simpa using h4, e2, ?_⟩
          rw [if_neg h1, if_neg h2, hv]
          dsimp only at h3 h4 e3 ⊢
          rw [if_neg (by simpa using h3), if_neg h4, e3]
          simp [RdD.rest, List.drop_drop]
theorem fixed_get {x : RdD} {w : Int} (h : (x.fixed w).2.f = none) : x.f = none ∧ 1 ≤ w ∧ w ≤ 8 ∧ x.pos + w.toNat ≤ x.s.size ∧ x.fixed w = (beNum (x.rest.take w.toNat), { x with pos := x.pos + w.toNat }) := by
  unfold RdD.fixed at h ⊢
  split at h
  · exact absurd h (fail_is x _ (by simp))
  · rename_i h1
    split at h
    · exact absurd h ‹_›
    · rename_i h2
      obtain ⟨e1, e2, e3⟩ := take_get h
      refine ⟨e1, by omega, by omega, e2, ?_⟩
      rw [if_neg h1, if_neg h2, e3]
theorem hash_get {x : RdD} (h : x.hash.2.f = none) : x.f = none ∧ x.pos + 32 ≤ x.s.size ∧ x.hash = (x.rest.take 32, { x with pos := x.pos + 32 }) := by
  unfold RdD.hash at h ⊢
  split at h
  · exact absurd h ‹_›
  · rename_i h2
    obtain ⟨e1, e2, e3⟩ := take_get h
    refine ⟨e1, e2, ?_⟩
    rw [if_neg h2, e3]
    have : (x.rest.take 32).length = 32 := by rw [List.length_take, rest_len]; omega
    unfold hashOf
    rw [if_pos this]
theorem took_okD (x : RdD) (t : ThingD) (ht : t.Ok) (hs : x.s.size ≤ 9223372036854775807) : (tookD x t).1.Ok := by
  have z1 : (-9223372036854775808 : Int) ≤ 0 := by decide
  have z2 : (0 : Int) ≤ 9223372036854775807 := by decide
  have z3 : (0 : Nat) < 18446744073709551616 := by decide
  have z4 : (⟨#[]⟩ : ByteArray).size ≤ 9223372036854775807 := by decide
  unfold tookD
  split
  · exact ⟨z1, z2, z1, z2, fixed_lt x _, ht.wd1, ht.wd2, z4, rfl⟩
  · split
    · exact ⟨z1, z2, (show (-9223372036854775808 : Int) ≤ 1 by decide), (show (1 : Int) ≤ 9223372036854775807 by decide), var_small x, z1, z2, z4, rfl⟩
    · split
      · refine ⟨z1, z2, (show (-9223372036854775808 : Int) ≤ 2 by decide), (show (2 : Int) ≤ 9223372036854775807 by decide), z3, z1, z2, ?_, rfl⟩
        show (str (x.text t.wd).1).size ≤ _
        rw [str_size]
        exact Nat.le_trans (text_len x _) hs
      · exact ⟨z1, z2, (show (-9223372036854775808 : Int) ≤ 3 by decide), (show (3 : Int) ≤ 9223372036854775807 by decide), z3, z1, z2, z4, hash_len x⟩
theorem took_tlen (x : RdD) (t : ThingD) : (tookD x t).1.t.size ≤ x.s.size := by
  unfold tookD
  split
  · exact Nat.zero_le _
  · split
    · exact Nat.zero_le _
    · split
      · show (str (x.text t.wd).1).size ≤ _
        rw [str_size]; exact text_len x _
      · exact Nat.zero_le _
/-- What has been read is written with the bytes that it had. -/
theorem took_form {x : RdD} {t : ThingD} (h : (tookD x t).2.f = none) :
    formE (tookD x t).1 = none ∧ (tookD x t).2.pos ≤ x.s.size ∧ x.s.data.toList.take (tookD x t).2.pos = x.s.data.toList.take x.pos ++ formB (tookD x t).1 := by
  unfold tookD at h ⊢
  rcases kinds t with hk | hk | hk | hk
  · rw [if_pos hk] at h ⊢
    obtain ⟨e1, e2, e3, e4, e5⟩ := fixed_get h
    rw [e5]
    have hl : (x.rest.take t.wd.toNat).length = t.wd.toNat := by rw [List.length_take, rest_len]; omega
    have hb := beNum_lt (x.rest.take t.wd.toNat)
    rw [hl, show (256 : Nat) = 2 ^ 8 from rfl, ← Nat.pow_mul] at hb
    have hf : fits ({ zeroT 0 with n := beNum (x.rest.take t.wd.toNat), wd := t.wd } : ThingD) = true := by
      simp only [fits, Bool.and_eq_true, decide_eq_true_eq]
      exact ⟨⟨e2, e3⟩, Nat.div_eq_of_lt hb⟩
    refine ⟨by unfold formE; rw [hf]; simp, e4, ?_⟩
    have : formB ({ zeroT 0 with n := beNum (x.rest.take t.wd.toNat), wd := t.wd } : ThingD) = fixB t.wd.toNat (beNum (x.rest.take t.wd.toNat)) := by
      unfold formB
      rw [if_pos (by rfl), hf]; rfl
    rw [this]
    have h3 := fixB_beNum (x.rest.take t.wd.toNat)
    rw [hl] at h3
    rw [h3]
    exact take_rest x _
  · rw [if_neg (by omega), if_pos hk] at h ⊢
    obtain ⟨e1, n, k, e2, e3⟩ := var_get h
    obtain ⟨e4, e5⟩ := varB_numB e2
    rw [e3]
    rw [rest_len] at e5
    have hpos : x.pos + k ≤ x.s.size := by
      have := (numGo_lt 9 true x.rest n k e2).2.1
      omega
    exact ⟨rfl, hpos, by rw [show formB ({ zeroT 1 with n := n } : ThingD) = varB n from rfl, e4]; exact take_rest x _⟩
  · rw [if_neg (by omega), if_neg (by omega), if_pos hk] at h ⊢
    obtain ⟨e1, n, k, e2, _, e4, e5⟩ := text_get h
    obtain ⟨e6, e7⟩ := varB_numB e2
    rw [e5]
    have hl : ((x.rest.drop k).take n).length = n := by rw [List.length_take, List.length_drop, rest_len]; omega
    refine ⟨rfl, e4, ?_⟩
    rw [show formB ({ zeroT 2 with t := str ((x.rest.drop k).take n) } : ThingD) = varB (str ((x.rest.drop k).take n)).size ++ (x.rest.drop k).take n from rfl, str_size, hl, e6]
    show x.s.data.toList.take (x.pos + k + n) = _
    rw [Nat.add_assoc, take_rest, List.take_add]
  · rw [if_neg (by omega), if_neg (by omega), if_neg (by omega)] at h ⊢
    obtain ⟨e1, e2, e3⟩ := hash_get h
    rw [e3]
    refine ⟨rfl, e2, ?_⟩
    rw [show formB ({ zeroT 3 with h := x.rest.take 32 } : ThingD) = x.rest.take 32 from rfl]
    exact take_rest x _
/-- Where a fault is told, what is answered is short. -/
theorem took_short {x : RdD} {t : ThingD} (h : (tookD x t).2.f ≠ none) : (tookD x t).1.t.size = 0 := by
  unfold tookD at h ⊢
  split
  · rfl
  · split
    · rfl
    · split
      · rename_i h1 h2 h3
        rw [if_neg h1, if_neg h2, if_pos h3] at h
        show (str (x.text t.wd).1).size = 0
        rw [text_no h]; rfl
      · rfl
end Go.Proofs.YtljnhelnmnomoaaGreatDoor
