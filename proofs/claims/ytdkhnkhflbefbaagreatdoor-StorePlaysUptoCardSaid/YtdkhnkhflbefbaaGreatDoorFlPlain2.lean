/- Rows of names with texts; reads that rise: plain (for the document's store). -/
import Derived.Test.YtdkhnkhflbefbaaGreatDoorStore
import Derived.Test.YtdkhnkhflbefbaaGreatDoorStNames
namespace Go.Proofs.YtdkhnkhflbefbaaGreatDoor
open Go.RowKit Go.Lib Go.Sort

/-- The read ahead of the k-th. -/
def lastR (zs : List Int) (k : Nat) : Int := if k = 0 then 0 else zs.getD (k - 1) 0
theorem lastR_zero (zs : List Int) : lastR zs 0 = 0 := rfl
theorem lastR_succ (zs : List Int) (k : Nat) (h : k < zs.length) : lastR zs (k + 1) = zs[k] := by
  unfold lastR
  rw [if_neg (by omega)]
  simp [h]
/-- The reads' loop: so far they rise. -/
def RiseRel (zs : List Int) (w : World) (iv : Value) (wr : World) : Prop := ∃ k : Nat, iv = .int .i64 k ∧ k ≤ zs.length ∧ 0 ≤ lastR zs k ∧ mayFrom (lastR zs k) (zs.drop k) = mayR zs ∧ Ext w wr
theorem rise_no {zs : List Int} {k : Nat} (h : k < zs.length) (hm : mayFrom (lastR zs k) (zs.drop k) = mayR zs) (hle : zs[k] ≤ lastR zs k) : mayR zs = false := by
  rw [← hm, mayFrom_drop _ _ _ h, if_pos hle]
theorem rise_yes {zs : List Int} {k : Nat} (h : k < zs.length) (hm : mayFrom (lastR zs k) (zs.drop k) = mayR zs) (hle : ¬ zs[k] ≤ lastR zs k) : mayFrom (lastR zs (k + 1)) (zs.drop (k + 1)) = mayR zs := by
  rw [← hm, mayFrom_drop _ _ _ h, if_neg hle, lastR_succ zs k h]
theorem rise_all {zs : List Int} {l : Int} (hm : mayFrom l (zs.drop zs.length) = mayR zs) : mayR zs = true := by
  rw [← hm, List.drop_length]; rfl
/-- The cells of writes. -/
def wrCells (L : TxtL) : List Value := L.flatMap fun p => [.string p.1, .string p.2]
theorem wrCells_snoc (L : TxtL) (p : ByteArray × ByteArray) : wrCells (L ++ [p]) = wrCells L ++ [.string p.1, .string p.2] := by simp [wrCells]
theorem wrCells_at : ∀ (L : TxtL) (i : Nat) (p : ByteArray × ByteArray), L[i]? = some p → (wrCells L)[i * 2]? = some (.string p.1) ∧ (wrCells L)[i * 2 + 1]? = some (.string p.2)
  | [], i, p, h => by cases h
  | q :: L, 0, p, h => by
    obtain rfl := Option.some.inj h
    exact ⟨rfl, rfl⟩
  | q :: L, i + 1, p, h => by
    have ih := wrCells_at L i p h
    have e : wrCells (q :: L) = .string q.1 :: .string q.2 :: wrCells L := rfl
    rw [e, show (i + 1) * 2 = i * 2 + 1 + 1 by omega]
    exact ih
theorem row_type {w : World} {B e size n : Nat} {v : Value} {xs : List Value} (h : w.ownsRow B e size v n xs) {g : Nat} (hg : v.ownBlock = some g) : ∃ c, w.heap[g]? = some (.cells c e (0, 0)) := by
  rcases h.2 with ⟨rfl, _⟩ | ⟨g', cap, cur, rfl, _, hb, _⟩
  · cases hg
  · obtain rfl : g' = g := by simpa [Value.ownBlock] using hg
    exact ⟨_, hb⟩
end Go.Proofs.YtdkhnkhflbefbaaGreatDoor
