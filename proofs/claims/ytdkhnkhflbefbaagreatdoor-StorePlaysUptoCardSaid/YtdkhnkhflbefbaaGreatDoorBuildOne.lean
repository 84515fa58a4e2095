/- A slice of one struct or array, built: of no program. -/
import Derived.Test.YtdkhnkhflbefbaaGreatDoorAgg
import Derived.Great.BuildSlice
namespace Go.Proofs.YtdkhnkhflbefbaaGreatDoor
open Go.RowKit Go.Lib

theorem fold_zip (l : List Value) : ∀ (k : Nat) (z : Array Value) (n : Nat), z.size = n → k + l.length ≤ n →
    let r := (l.zipIdx k).foldl (fun cs (x : Value × Nat) => cs.setIfInBounds (0 + x.2) x.1) z
    r.size = n ∧ ∀ i, r[i]? = if k ≤ i ∧ i < k + l.length then l[i - k]? else z[i]? := by
  induction l with
  | nil =>
    intro k z n hz _
    refine ⟨hz, fun i => ?_⟩
    rw [if_neg (by simp only [List.length_nil]; omega)]; rfl
  | cons v l ih =>
    intro k z n hz hk
    simp only [List.length_cons] at hk
    have h := ih (k + 1) (z.setIfInBounds (0 + k) v) n (by simpa using hz) (by omega)
    refine ⟨h.1, fun i => ?_⟩
    have h2 := h.2 i
    simp only [List.zipIdx_cons, List.foldl_cons] at h2 ⊢
    rw [h2]
    by_cases h1 : k + 1 ≤ i ∧ i < k + 1 + l.length
    · rw [if_pos h1, if_pos (by simp only [List.length_cons]; omega), show i - k = (i - (k + 1)) + 1 by omega, List.getElem?_cons_succ]
    · rw [if_neg h1]
      by_cases h3 : i = k
      · subst h3
        rw [if_pos (by simp only [List.length_cons]; omega), Nat.sub_self, List.getElem?_cons_zero, Nat.zero_add, Array.getElem?_setIfInBounds_self_of_lt (by omega)]
      · rw [if_neg (by simp only [List.length_cons]; omega), Nat.zero_add, Array.getElem?_setIfInBounds_ne (by omega)]
theorem fold_all (l : List Value) (z : Array Value) (hz : z.size = l.length) : l.toArray.zipIdx.foldl (fun cs (x : Value × Nat) => cs.setIfInBounds (0 + x.2) x.1) z = l.toArray := by
  rw [← Array.foldl_toList, Array.toList_zipIdx]
  obtain ⟨h1, h2⟩ := fold_zip l 0 z l.length hz (by omega)
  apply Array.ext_getElem?
  intro i
  have := h2 i
  simp only at this h1 ⊢
  rw [this]
  by_cases hi : i < l.length
  · rw [if_pos (by omega), Nat.sub_zero]; simp
  · have a1 : z[i]? = none := Array.getElem?_eq_none (by omega)
    have a2 : l.toArray[i]? = none := Array.getElem?_eq_none (by rw [List.size_toArray]; omega)
    rw [if_neg (by omega), a1, a2]
/-- A row of one struct. -/
theorem wpList_buildOne {P : Program} {w : World} {ops : Array Oper} {rest : List Oper} {o : Oper} {a : Act} {Q : Exit → Act → World → Prop} (hg : o.guard = none) (t e : TypeId) (y : Operand) (ho : o.op = .buildSlice t 1 #[(0, y)])
    (vs : List Value) (hy : a.eval y = .agg vs.toArray) (hu : P.underlying t = some (.slice e)) (hi : (P.info? e).map (·.size) = some vs.length) (hz : ((P.info? e).bind (·.zero)).isSome = true) (hpos : 0 < vs.length) (hsmall : vs.length ≤ 16777216)
    (h : wpList P ops Q rest (a.put o.dst (.slice (some ⟨w.heap.size, 0, none⟩) 1 1)) (w.alloc (.cells vs.toArray e))) : wpList P ops Q (o :: rest) a w := by
  cases hie : P.info? e with
  | none => simp [hie] at hi
  | some ie =>
    simp only [hie, Option.map_some, Option.some.injEq, Option.bind_some] at hi hz
    obtain ⟨z, hzz⟩ := Option.isSome_iff_exists.1 hz
    refine wpList_buildSlice hg t e 1 _ ho vs.toArray ie z hu hie hzz (by rw [hi]; omega) (by rw [hi]; omega) ?_ h
    simp only [List.map_toArray, List.map_cons, List.map_nil, hy, Instr.fill, Value.cells, hi, Nat.zero_mul, Nat.one_mul]
    rw [if_neg (by simp), fold_all _ _ (by simp)]
end Go.Proofs.YtdkhnkhflbefbaaGreatDoor
