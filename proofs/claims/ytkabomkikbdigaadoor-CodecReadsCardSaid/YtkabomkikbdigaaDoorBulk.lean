/- What the bound of the second forms gives: how long the texts and rows of things among the arguments may be. -/
import Derived.Test.YtkabomkikbdigaaDoorArgs
namespace Go.Proofs.YtkabomkikbdigaaDoor.bulks
open Go.RowKit Go.Lib
section
variable {H : Type}
theorem bound {l : List (DataW H)} (hk : Rows.uptoSmall H l = true) : Rows.uptoBulkAll l ≤ 1048576 := by simpa [Rows.uptoSmall] using hk
theorem bytes (l : List UInt8) : Rows.uptoBulkAll (l.map fun b => (.lit (.int .u8 b.toNat) : DataW H)) = l.length := by
  induction l with
  | nil => simp [Rows.uptoBulkAll]
  | cons b l ih => simp [Rows.uptoBulkAll, Rows.uptoBulk, ih]; omega
theorem thing (x : ThingD) (h : x.h.length = 32) : Rows.uptoBulk (thingData (H := H) x) = 39 + x.t.size := by
  have e : x.t.data.toList.length = x.t.size := by rw [Array.length_toList]; rfl
  simp only [thingData, Rows.uptoBulk, Rows.uptoBulkAll, bytes, h, e]
  omega
def weight (xs : List ThingD) : Nat := (xs.map fun x => 39 + x.t.size).sum
theorem things (xs : List ThingD) (h : ∀ x ∈ xs, x.h.length = 32) : Rows.uptoBulkAll (xs.map (thingData (H := H))) = weight xs := by
  induction xs with
  | nil => simp [Rows.uptoBulkAll, weight]
  | cons x xs ih =>
    have := ih (fun y hy => h y (by simp [hy]))
    simp only [List.map_cons, Rows.uptoBulkAll, thing x (h x (by simp)), this, weight, List.sum_cons]
theorem arg {w : World} {a : Option Addr} {xs : List ThingD} {d : DataW H} (hx : ThingsAt w a xs) (hd : (xs = [] ∧ d = .nil) ∨ ∃ sp, d = .slice (xs.map thingData) sp) : weight xs ≤ Rows.uptoBulk d := by
  rcases hd with ⟨rfl, rfl⟩ | ⟨sp, rfl⟩
  · simp [weight]
  · simp only [Rows.uptoBulk]
    rw [things xs (fun x hx2 => by
      obtain ⟨i, hi, rfl⟩ := List.mem_iff_getElem.1 hx2
      exact (hx i _ (List.getElem?_eq_getElem hi)).1.h)]
    omega
theorem weight_len (xs : List ThingD) : 39 * xs.length ≤ weight xs := by
  induction xs with
  | nil => simp
  | cons x xs ih => simp only [weight, List.map_cons, List.sum_cons, List.length_cons] at ih ⊢; omega
theorem string (s : ByteArray) : Rows.uptoBulk (.lit (.string s.data.toList) : DataW H) = s.size + 1 := by
  have e : s.data.toList.length = s.size := by rw [Array.length_toList]; rfl
  simp [Rows.uptoBulk, e]
end
end Go.Proofs.YtkabomkikbdigaaDoor.bulks
