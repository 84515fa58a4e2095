/- The statements' named of chapter 12 by a contract. -/
import Derived.Test.YtdkhnkhflbefbaaDoorLies
import Derived.Sort.Walk0
namespace Go.Proofs.YtdkhnkhflbefbaaDoor
open Go.RowKit Go.Lib Go.Sort

theorem names_mem (L : TxtL) (x : List UInt8) : x ∈ namesL L ↔ x ∈ L.map fun p => p.1.data.toList := by
  unfold namesL; exact (List.mergeSort_perm _ _).mem_iff
theorem names_rise {L : TxtL} (nd : (L.map (·.1)).Nodup) : (namesL L).Pairwise (· < ·) := by
  have tr : ∀ a b c : List UInt8, leB a b = true → leB b c = true → leB a c = true := fun a b c h1 h2 => by simp only [leB, decide_eq_true_eq] at *; exact List.le_trans h1 h2
  have to : ∀ a b : List UInt8, (leB a b || leB b a) = true := fun a b => by simp only [leB, Bool.or_eq_true, decide_eq_true_eq]; exact List.le_total a b
  have h1 : (namesL L).Pairwise (fun a b => leB a b = true) := List.pairwise_mergeSort tr to _
  have h2 : (namesL L).Nodup := (List.mergeSort_perm _ _).nodup_iff.2 (by
    have : (L.map fun p => p.1.data.toList) = (L.map (·.1)).map (fun s => s.data.toList) := by rw [List.map_map]; rfl
    rw [this]
    exact List.pairwise_map.2 (nd.imp fun {a b} hne e => hne (ByteArray.ext (Array.ext' e))))
  refine (h1.and h2).imp ?_
  intro a b ⟨h3, h4⟩
  simp only [leB, decide_eq_true_eq] at h3
  exact Classical.byContradiction fun h => h4 (List.le_antisymm h3 (List.not_lt.1 h))
theorem strs_at (l : List (List UInt8)) (i : Nat) (h : i < l.length) : (strs l)[i]? = some ⟨(l[i]).toArray⟩ := by simp [strs, h]
theorem strs_toList (x : List UInt8) : (⟨x.toArray⟩ : ByteArray).toList = x := by rw [ByteArray.toList_eq]
theorem names_len (L : TxtL) : (strs (namesL L)).length = L.length := by simp [strs, namesL]
theorem names_key {L : TxtL} {i : Nat} {t : ByteArray} (h : (strs (namesL L))[i]? = some t) : (lookL L t).isSome = true := by
  unfold strs at h
  rw [List.getElem?_map] at h
  cases hx : (namesL L)[i]? with
  | none => rw [hx] at h; cases h
  | some x =>
    rw [hx] at h
    obtain rfl := Option.some.inj h
    have := (names_mem L x).1 (List.mem_of_getElem? hx)
    obtain ⟨p, hp, rfl⟩ := List.mem_map.1 this
    exact (lookL_mem L _).2 (List.mem_map.2 ⟨p, hp, by simp⟩)
theorem names_less {L : TxtL} (nd : (L.map (·.1)).Nodup) {i : Nat} {s t : ByteArray} (h1 : (strs (namesL L))[i]? = some s) (h2 : (strs (namesL L))[i + 1]? = some t) : Op.bytesLess s.toList t.toList = true := by
  unfold strs at h1 h2
  rw [List.getElem?_map] at h1 h2
  cases hx : (namesL L)[i]? with
  | none => rw [hx] at h1; cases h1
  | some x =>
    cases hy : (namesL L)[i + 1]? with
    | none => rw [hy] at h2; cases h2
    | some y =>
      rw [hx] at h1
      rw [hy] at h2
      obtain rfl := Option.some.inj h1
      obtain rfl := Option.some.inj h2
      rw [strs_toList, strs_toList, bytesLess_eq]
      obtain ⟨a1, a2⟩ := List.getElem?_eq_some_iff.1 hx
      obtain ⟨b1, b2⟩ := List.getElem?_eq_some_iff.1 hy
      have := List.pairwise_iff_getElem.1 (names_rise nd) i (i + 1) a1 b1 (by omega)
      rw [a2, b2] at this
      exact decide_eq_true this
theorem names_has {L : TxtL} {t : ByteArray} (h : (lookL L t).isSome = true) : ∃ k, k < L.length ∧ (strs (namesL L))[k]? = some t := by
  obtain ⟨p, hp, e⟩ := List.mem_map.1 ((lookL_mem L t).1 h)
  have hm : t.data.toList ∈ namesL L := (names_mem L _).2 (List.mem_map.2 ⟨p, hp, by rw [e]⟩)
  obtain ⟨k, hk, hx⟩ := List.getElem_of_mem hm
  refine ⟨k, by have : (namesL L).length = L.length := by simp [namesL]
                omega, ?_⟩
  rw [strs_at _ _ hk, hx]
theorem lie_has (ws : TxtL) : ∀ (n i : Nat), i < n → (h : i < ws.length) → (lieN ws n ws[i].1).isSome = true
  | n + 1, i, hi, h => by
    unfold lieN
    by_cases e : i = n
    · subst e
      rw [List.getElem?_eq_getElem h]
      simp
    · have ih := lie_has ws n i (by omega) h
      split
      · split
        · rfl
        · exact ih
      · exact ih
theorem key_le {w : World} {mb : Nat} {L : TxtL} (h : MapAt w mb L) : ∀ x ∈ namesL L, x.length ≤ 9223372036854775807 := by
  obtain ⟨D, ho, _, h2, _⟩ := h.ex
  intro x hx
  obtain ⟨p, hp, rfl⟩ := List.mem_map.1 ((names_mem L x).1 hx)
  have hs : Maps.has D (keyLit p.1) = true := by rw [h2]; exact (lookL_mem L _).2 (List.mem_map.2 ⟨p, hp, rfl⟩)
  obtain ⟨es, hD, hko⟩ := ho.keysOf
  subst hD
  rw [Maps.has_eq, List.any_eq_true] at hs
  obtain ⟨q, hq, he⟩ := hs
  obtain ⟨v, hv⟩ := hko q hq
  obtain ⟨y, _, hy, hl⟩ := Maps.keyOf_str Tryd.underlying9 hv
  rw [hy] at he
  have : y = p.1.data.toList := by simpa [Lit.sameKey, keyLit] using he
  rw [← this]; exact hl
end Go.Proofs.YtdkhnkhflbefbaaDoor
