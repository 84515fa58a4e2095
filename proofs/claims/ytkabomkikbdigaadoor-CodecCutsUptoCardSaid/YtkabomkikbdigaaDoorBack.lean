/- What was put is read by the same reads; cut off anywhere ahead of its end it is refused. -/
import Derived.Test.YtkabomkikbdigaaDoorTaken
namespace Go.Proofs.YtkabomkikbdigaaDoor
open Go.RowKit Go.Lib

theorem numGo_cut : ∀ (f : Nat) (first : Bool) (n m : Nat), n < 2 ^ (7 * f + 1) → m < (varN (f + 1) n).length → numGo (f + 1) first ((varN (f + 1) n).take m) = none
  | f, first, n, m, hn, hm => by
    unfold varN at hm ⊢
    split at hm
    · rename_i h
      have : m = 0 := by simpa using hm
      subst this
      rw [List.take_zero]
      rfl
    · rename_i h
      rw [if_neg h]
      cases m with
      | zero => rw [List.take_zero]; rfl
      | succ m =>
        match f, hn, hm with
        | 0, hn, _ => simp at hn; omega
        | f + 1, hn, hm =>
          have e : ((n % 128 + 128).toUInt8).toNat = n % 128 + 128 := by simp [Nat.toUInt8, UInt8.toNat_ofNat']; omega
          have hd : n / 128 < 2 ^ (7 * f + 1) := by
            have e2 : 2 ^ (7 * (f + 1) + 1) = 2 ^ (7 * f + 1) * 128 := by rw [show 7 * (f + 1) + 1 = (7 * f + 1) + 7 by omega, Nat.pow_add]
            rw [e2] at hn
            exact Nat.div_lt_of_lt_mul (by omega)
          have ih := numGo_cut f false (n / 128) m hd (by simpa using hm)
          rw [List.take_succ_cons]
          unfold numGo
          split
          · rfl
          · rw [e, if_neg (by omega), ih]; rfl
theorem numB_cut (n m : Nat) (hn : n < 18446744073709551616) (hm : m < (varB n).length) : numB ((varB n).take m) = none := numGo_cut 9 true n m hn hm
/-- A thing that is put without an error, told to be read. -/
structure Fit (u : ThingD) : Prop where
  ok : u.Ok
  e : formE u = none
  w : u.kind % 4 = 2 → u.wd = u.t.size
theorem putIn_fit {t : ThingD} (h : t.Ok) (he : okT t = true) : Fit (putIn t) := by
  have hn : formE t = none := by simpa [okT] using he
  refine ⟨putIn_ok h, ?_, fun hk => ?_⟩
  · unfold putIn
    split
    · rename_i hk
      unfold formE
      rw [if_neg (by intro h; have := h.1; simp at this; omega)]
    · exact hn
  · unfold putIn at hk ⊢
    split at hk
    · rename_i h2; rw [if_pos h2]
    · rename_i h2; exact absurd hk h2
theorem formB_putIn (t : ThingD) : formB (putIn t) = formB t := by
  unfold putIn
  split
  · rename_i hk
    unfold formB
    simp [hk]
  · rfl
theorem formB_bad {t : ThingD} (h : ¬ okT t = true) : formB t = [] := by
  have hn : formE t ≠ none := by intro e; rw [okT, e] at h; simp at h
  unfold formE at hn
  split at hn
  · rename_i hk
    unfold formB
    rw [if_pos hk.1, if_neg (by simp [hk.2])]
  · exact absurd rfl hn
theorem takenB_is (ts : List ThingD) : takenB ts = (takenL ts).flatMap formB := by
  induction ts with
  | nil => rfl
  | cons t ts ih =>
    have e1 : takenB (t :: ts) = formB t ++ takenB ts := by simp [takenB]
    rw [e1, ih]
    unfold takenL
    by_cases h : okT t = true
    · simp [h, formB_putIn]
    · simp [h, formB_bad h]
theorem taken_fit {ts : List ThingD} (h : ∀ t ∈ ts, t.Ok) : ∀ u ∈ takenL ts, Fit u := fun u hu => by
  unfold takenL at hu
  obtain ⟨t, ht, rfl⟩ := List.mem_map.1 hu
  obtain ⟨h1, h2⟩ := List.mem_filter.1 ht
  exact putIn_fit (h t h1) h2
theorem fit_fits {u : ThingD} (h : Fit u) (hk : u.kind % 4 = 0) : fits u = true ∧ 1 ≤ u.wd ∧ u.wd ≤ 8 ∧ u.n < 2 ^ (8 * u.wd.toNat) := by
  have he := h.e
  unfold formE at he
  have hf : fits u = true := by
    cases hb : fits u
    · rw [if_pos ⟨hk, hb⟩] at he; cases he
    · rfl
  have h2 := hf
  simp only [fits, Bool.and_eq_true, decide_eq_true_eq] at h2
  refine ⟨hf, h2.1.1, h2.1.2, ?_⟩
  rcases Nat.lt_or_ge u.n (2 ^ (8 * u.wd.toNat)) with h3 | h3
  · exact h3
  · have := Nat.div_pos h3 (Nat.two_pow_pos _)
    omega
/-- Each of them has a byte. -/
theorem fit_pos {u : ThingD} (h : Fit u) : 1 ≤ (formB u).length := by
  have hv : ∀ n, 1 ≤ (varB n).length := fun n => by unfold varB varN; split <;> simp
  unfold formB
  rcases kinds u with hk | hk | hk | hk
  · obtain ⟨h1, h2, h3, h4⟩ := fit_fits h hk
    rw [if_pos hk, if_pos h1, fixB_len]; omega
  · rw [if_neg (by omega), if_pos hk]; exact hv _
  · rw [if_neg (by omega), if_neg (by omega), if_pos hk, List.length_append]
    have := hv u.t.size
    omega
  · rw [if_neg (by omega), if_neg (by omega), if_neg (by omega), h.ok.h]; omega
theorem tlen (s : ByteArray) : s.data.toList.length = s.size := by rw [Array.length_toList]; rfl
/-- What was put is read. -/
structure Same (u r : ThingD) : Prop where
  n : u.kind % 4 = 0 ∨ u.kind % 4 = 1 → r.n = u.n
  t : u.kind % 4 = 2 → r.t = u.t
  h : u.kind % 4 = 3 → r.h = u.h
theorem took_back {x : RdD} {u : ThingD} {r : List UInt8} (hu : Fit u) (hf : x.f = none) (hp : x.pos ≤ x.s.size) (hr : x.rest = formB u ++ r) :
    (tookD x u).2 = { x with pos := x.pos + (formB u).length } ∧ Same u (tookD x u).1 := by
  have hl := rest_len x
  rw [hr, List.length_append] at hl
  unfold tookD
  rcases kinds u with hk | hk | hk | hk
  · obtain ⟨h1, h2, h3, h4⟩ := fit_fits hu hk
    have ef : formB u = fixB u.wd.toNat u.n := by unfold formB; rw [if_pos hk, if_pos h1]
    rw [ef] at hr hl ⊢
    rw [fixB_len] at hl ⊢
    have e : x.fixed u.wd = (u.n, { x with pos := x.pos + u.wd.toNat }) := by
      unfold RdD.fixed RdD.take
      rw [if_neg (by omega), if_neg (by simp [hf]), if_pos ⟨hf, by omega⟩, hr, List.take_left' (fixB_len _ _)]
      rw [beNum_fixB _ _ h4]
    rw [if_pos hk, e]
    exact ⟨rfl, ⟨fun _ => rfl, fun h => by omega, fun h => by omega⟩⟩
  · have ef : formB u = varB u.n := by unfold formB; rw [if_neg (by omega), if_pos hk]
    rw [ef] at hr hl ⊢
    have e : x.var = (u.n, { x with pos := x.pos + (varB u.n).length }) := by
      unfold RdD.var
      rw [if_pos hf, hr, numB_varB u.n hu.ok.n]
    rw [if_neg (by omega), if_pos hk, e]
    exact ⟨rfl, ⟨fun _ => rfl, fun h => by omega, fun h => by omega⟩⟩
  · have ef : formB u = varB u.t.size ++ u.t.data.toList := by unfold formB; rw [if_neg (by omega), if_neg (by omega), if_pos hk]
    have hw := hu.w hk
    have hz := hu.ok.t
    rw [ef] at hr hl ⊢
    rw [List.length_append, tlen] at hl ⊢
    have e : x.var = (u.t.size, { x with pos := x.pos + (varB u.t.size).length }) := by
      unfold RdD.var
      rw [if_pos hf, hr, List.append_assoc, numB_varB u.t.size (by omega)]
    have er : ({ x with pos := x.pos + (varB u.t.size).length } : RdD).rest = u.t.data.toList ++ r := by
      have : ({ x with pos := x.pos + (varB u.t.size).length } : RdD).rest = x.rest.drop (varB u.t.size).length := by simp [RdD.rest, List.drop_drop]
      rw [this, hr, List.append_assoc, List.drop_left]
    have e2 : x.text u.wd = (u.t.data.toList, { x with pos := x.pos + ((varB u.t.size).length + u.t.size) }) := by
      unfold RdD.text
      rw [if_neg (by omega), if_neg (by simp [hf]), e]
      dsimp only
      rw [if_neg (by simp [hf]), if_neg (by omega)]
      unfold RdD.take
      rw [if_pos ⟨hf, by show x.pos + (varB u.t.size).length + u.t.size ≤ x.s.size; omega⟩, er, List.take_left' (tlen u.t)]
      simp only [Nat.add_assoc]
    rw [if_neg (by omega), if_neg (by omega), if_pos hk, e2]
    exact ⟨rfl, ⟨fun h => by omega, fun _ => str_toList u.t, fun h => by omega⟩⟩
  · have ef : formB u = u.h := by unfold formB; rw [if_neg (by omega), if_neg (by omega), if_neg (by omega)]
    rw [ef] at hr hl ⊢
    rw [hu.ok.h] at hl ⊢
    have e : x.hash = (u.h, { x with pos := x.pos + 32 }) := by
      unfold RdD.hash RdD.take
      rw [if_neg (by simp [hf]), if_pos ⟨hf, by omega⟩, hr, List.take_left' hu.ok.h]
      unfold hashOf
      rw [if_pos hu.ok.h]
    rw [if_neg (by omega), if_neg (by omega), if_neg (by omega), e]
    exact ⟨rfl, ⟨fun h => by omega, fun h => by omega, fun _ => rfl⟩⟩
theorem fail_f (x : RdD) (e : EV) (h : x.f = none) : (x.fail e).f = e := fail_new x e h
/-- What is cut off is refused. -/
theorem took_cut {x : RdD} {u : ThingD} {r : List UInt8} {m : Nat} (hu : Fit u) (hf : x.f = none) (hp : x.pos ≤ x.s.size) (hr : x.rest = (formB u ++ r).take m) (hm : m < (formB u).length) :
    (tookD x u).2.f = some (3, some (x.pos : Int)) := by
  have hr2 : x.rest = (formB u).take m := by rw [hr, List.take_append_of_le_length (by omega)]
  have hl := rest_len x
  rw [hr2, List.length_take] at hl
  unfold tookD
  rcases kinds u with hk | hk | hk | hk
  · obtain ⟨h1, h2, h3, h4⟩ := fit_fits hu hk
    have ef : formB u = fixB u.wd.toNat u.n := by unfold formB; rw [if_pos hk, if_pos h1]
    rw [ef, fixB_len] at hl hm
    have e : (x.fixed u.wd).2 = x.fail (some (3, some (x.pos : Int))) := by
      unfold RdD.fixed RdD.take
      rw [if_neg (by omega), if_neg (by simp [hf]), if_neg (by omega)]
    rw [if_pos hk]
    show (x.fixed u.wd).2.f = _
    rw [e, fail_f x _ hf]
  · have ef : formB u = varB u.n := by unfold formB; rw [if_neg (by omega), if_pos hk]
    rw [ef] at hr2 hm
    rw [if_neg (by omega), if_pos hk]
    show x.var.2.f = _
    unfold RdD.var
    rw [if_pos hf, hr2, numB_cut u.n m hu.ok.n hm]
  · have ef : formB u = varB u.t.size ++ u.t.data.toList := by unfold formB; rw [if_neg (by omega), if_neg (by omega), if_pos hk]
    have hw := hu.w hk
    have hz := hu.ok.t
    rw [ef] at hr2 hm hl
    rw [List.length_append, tlen] at hm hl
    rw [if_neg (by omega), if_neg (by omega), if_pos hk]
    show (x.text u.wd).2.f = _
    unfold RdD.text
    rw [if_neg (by omega), if_neg (by simp [hf])]
    by_cases hc : m < (varB u.t.size).length
    · rw [List.take_append_of_le_length (by omega)] at hr2
      have e : x.var = (0, { x with f := some (3, some (x.pos : Int)) }) := by
        unfold RdD.var
        rw [if_pos hf, hr2, numB_cut u.t.size m (by omega) hc]
      rw [e, if_pos (by simp)]
    · have e : x.var = (u.t.size, { x with pos := x.pos + (varB u.t.size).length }) := by
        unfold RdD.var
        rw [if_pos hf, hr2, List.take_append, List.take_of_length_le (by omega), numB_varB u.t.size (by omega)]
      rw [e]
      dsimp only
      rw [if_neg (by simp [hf]), if_neg (by omega)]
      unfold RdD.take
      rw [if_neg (by intro h; have := h.2; have : x.pos + (varB u.t.size).length + u.t.size ≤ x.s.size := this; omega)]
      exact fail_f _ _ hf
  · have ef : formB u = u.h := by unfold formB; rw [if_neg (by omega), if_neg (by omega), if_neg (by omega)]
    rw [ef, hu.ok.h] at hl hm
    rw [if_neg (by omega), if_neg (by omega), if_neg (by omega)]
    show x.hash.2.f = _
    unfold RdD.hash RdD.take
    rw [if_neg (by simp [hf]), if_neg (by omega)]
    exact fail_f x _ hf
end Go.Proofs.YtkabomkikbdigaaDoor
