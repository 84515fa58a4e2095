/- took: what a read of a reader answers. Plain laws of a reader: a read goes forward; behind a fault nothing turns. -/
import Derived.Test.YtljnhelnmnomoaaGreatDoorLives
namespace Go.Proofs.YtljnhelnmnomoaaGreatDoor
open Go.RowKit Go.Lib


def zeroT (k : Int) : ThingD := ⟨0, k, 0, 0, ⟨#[]⟩, zeros32⟩
/-- A read of a reader, by what a thing names. -/
def tookD (x : RdD) (t : ThingD) : ThingD × RdD :=
  if t.kind % 4 = 0 then ({ zeroT 0 with n := (x.fixed t.wd).1, wd := t.wd }, (x.fixed t.wd).2)
  else if t.kind % 4 = 1 then ({ zeroT 1 with n := x.var.1 }, x.var.2)
  else if t.kind % 4 = 2 then ({ zeroT 2 with t := str (x.text t.wd).1 }, (x.text t.wd).2)
  else ({ zeroT 3 with h := x.hash.1 }, x.hash.2)
/-- A Thing that has not been filled. -/
abbrev zero37 : Array Value := #[.int .i64 0, .int .i64 0, .int .u64 0, .int .i64 0, .string ⟨#[]⟩, .int .u8 0, .int .u8 0, .int .u8 0, .int .u8 0, .int .u8 0, .int .u8 0, .int .u8 0, .int .u8 0, .int .u8 0, .int .u8 0, .int .u8 0, .int .u8 0, .int .u8 0, .int .u8 0, .int .u8 0, .int .u8 0, .int .u8 0, .int .u8 0, .int .u8 0, .int .u8 0, .int .u8 0, .int .u8 0, .int .u8 0, .int .u8 0, .int .u8 0, .int .u8 0, .int .u8 0, .int .u8 0, .int .u8 0, .int .u8 0, .int .u8 0, .int .u8 0]
theorem zero37_is : zero37 = (thingCells (zeroT 0)).toArray := rfl
theorem one_cells (x : ThingD) : ∀ u ∈ thingCells x, u.oneCell' = true := by
  intro u hu
  simp only [thingCells, List.mem_cons, List.mem_map] at hu
  rcases hu with rfl | rfl | rfl | rfl | rfl | ⟨q, _, rfl⟩ <;> rfl
theorem over_thing (x y : ThingD) (hx : x.h.length = 32) (hy : y.h.length = 32) : over (thingCells x) 0 (thingCells y) = thingCells y := over_all _ _ (by rw [thingCells_len x hx, thingCells_len y hy])
theorem zeroT_ok (k : Int) : (zeroT k).h.length = 32 := rfl

/-- y is behind x. -/
structure RdD.Le (x y : RdD) : Prop where
  s : y.s = x.s
  keep : x.f ≠ none → y = x
  fwd : y.f = none → x.f = none ∧ x.pos ≤ y.pos
theorem RdD.Le.refl (x : RdD) : x.Le x := ⟨rfl, fun _ => rfl, fun h => ⟨h, Nat.le_refl _⟩⟩
theorem RdD.Le.trans {x y z : RdD} (h : x.Le y) (k : y.Le z) : x.Le z :=
  ⟨k.s.trans h.s, fun hx => by have e := h.keep hx; subst e; exact k.keep hx, fun hz => ⟨(h.fwd (k.fwd hz).1).1, Nat.le_trans (h.fwd (k.fwd hz).1).2 (k.fwd hz).2⟩⟩
theorem fail_keep (x : RdD) (e : EV) (h : x.f ≠ none) : x.fail e = x := by unfold RdD.fail; rw [if_neg h]
theorem fail_le (x : RdD) (e : EV) (he : e ≠ none) : x.Le (x.fail e) := by
  refine ⟨?_, fail_keep x e, fun h => ?_⟩
  · unfold RdD.fail; split <;> rfl
  · exfalso
    unfold RdD.fail at h
    split at h
    · exact he h
    · exact absurd h ‹_›
theorem take_le (x : RdD) (n : Nat) (src : Int) : x.Le (x.take n src).2 := by
  unfold RdD.take
  split
  · rename_i h
    exact ⟨rfl, fun e => absurd h.1 e, fun _ => ⟨h.1, by simp⟩⟩
  · exact fail_le x _ (by simp)
theorem var_le (x : RdD) : x.Le x.var.2 := by
  unfold RdD.var
  split
  · rename_i h
    split
    · exact ⟨rfl, fun e => absurd h e, fun _ => ⟨h, by simp⟩⟩
    · exact ⟨rfl, fun e => absurd h e, fun e => by simp at e⟩
  · exact RdD.Le.refl x
theorem fixed_le (x : RdD) (k : Int) : x.Le (x.fixed k).2 := by
  unfold RdD.fixed
  split
  · exact fail_le x _ (by simp)
  · split
    · exact RdD.Le.refl x
    · exact take_le x _ _
theorem text_le (x : RdD) (m : Int) : x.Le (x.text m).2 := by
  unfold RdD.text
  split
  · exact fail_le x _ (by simp)
  · split
    · exact RdD.Le.refl x
    · split
      · exact var_le x
      · split
        · exact (var_le x).trans (fail_le _ _ (by simp))
        · exact (var_le x).trans (take_le _ _ _)
theorem hash_le (x : RdD) : x.Le x.hash.2 := by
  unfold RdD.hash
  split
  · exact RdD.Le.refl x
  · exact take_le x _ _
theorem took_le (x : RdD) (t : ThingD) : x.Le (tookD x t).2 := by
  unfold tookD
  split
  · exact fixed_le x _
  · split
    · exact var_le x
    · split
      · exact text_le x _
      · exact hash_le x
/-- There is never more left than there was. -/
theorem left_le {x y : RdD} (h : x.Le y) (hx : x.f = none → x.pos ≤ x.s.size) : y.left ≤ x.left := by
  unfold RdD.left
  split
  · rename_i hy
    obtain ⟨h1, h2⟩ := h.fwd hy
    rw [if_pos h1, h.s]
    omega
  · split
    · rename_i h1
      have := hx h1
      omega
    · omega
/-- A Thing of a kind and a width, nothing else. -/
def bare (k wd : Int) : ThingD := ⟨0, k, 0, wd, ⟨#[]⟩, zeros32⟩
/-- A read behind a fault. -/
theorem took_fault (x : RdD) (t : ThingD) (h : x.f ≠ none) : tookD x t = (bare (t.kind % 4) (if t.kind % 4 = 0 then t.wd else 0), x) := by
  have e : ∀ e, x.fail e = x := fun e => fail_keep x e h
  unfold tookD
  rcases kinds t with hk | hk | hk | hk
  · have : x.fixed t.wd = (0, x) := by
      unfold RdD.fixed
      split
      · rw [e]
      · first | rfl | rw [if_pos h]
    rw [if_pos hk, if_pos hk, hk, this]; rfl
  · have : x.var = (0, x) := by unfold RdD.var; rw [if_neg h]
    rw [if_neg (by omega), if_pos hk, if_neg (by omega), hk, this]; rfl
  · have : x.text t.wd = ([], x) := by
      unfold RdD.text
      split
      · rw [e]
      · first | rfl | rw [if_pos h]
    rw [if_neg (by omega), if_neg (by omega), if_pos hk, if_neg (by omega), hk, this]; rfl
  · have : x.hash = (zeros32, x) := by unfold RdD.hash; rw [if_pos h]
    rw [if_neg (by omega), if_neg (by omega), if_neg (by omega), if_neg (by omega), hk, this]; rfl
theorem bare_ok (k wd : Int) (h1 : -9223372036854775808 ≤ k) (h2 : k ≤ 9223372036854775807) (h3 : -9223372036854775808 ≤ wd) (h4 : wd ≤ 9223372036854775807) : (bare k wd).Ok :=
  ⟨show (-9223372036854775808 : Int) ≤ 0 by decide, show (0 : Int) ≤ 9223372036854775807 by decide, h1, h2, show 0 < 18446744073709551616 by decide, h3, h4, show 0 ≤ 9223372036854775807 by decide, rfl⟩
theorem left_fault (x : RdD) (h : x.f ≠ none) : x.left = 0 := by unfold RdD.left; rw [if_neg h]
theorem fin_fault (x : RdD) (h : x.f ≠ none) : x.fin = x.f := by unfold RdD.fin; rw [if_neg (fun e => h e.1)]
theorem fail_is (x : RdD) (e : EV) (he : e ≠ none) : (x.fail e).f ≠ none := by
  unfold RdD.fail
  split
  · exact he
  · assumption
theorem fixed_zero (x : RdD) : x.fixed 0 = (0, x.fail (some (2, none))) := by unfold RdD.fixed; rw [if_pos (by omega)]
theorem fin_none (x : RdD) (h : x.fin = none) : x.f = none := by
  unfold RdD.fin at h
  split at h
  · cases h
  · exact h
theorem fail_new (x : RdD) (e : EV) (h : x.f = none) : (x.fail e).f = e := by unfold RdD.fail; rw [if_pos h]
end Go.Proofs.YtljnhelnmnomoaaGreatDoor
