/- Rows of texts in memory; SameTexts of the same. (For the seats of the store.) Plain: the names that a store tells. (As in Named.) -/
import Derived.Test.YtdkhnkhflbefbaaGreatDoorStNames
import Derived.Sort.Walk0
namespace Go.Proofs.YtdkhnkhflbefbaaGreatDoor
open Go.RowKit Go.Lib Go.Sort


def TextsAt (w : World) (a : Option Addr) (l : List ByteArray) : Prop := ∀ (i : Nat) (s : ByteArray), l[i]? = some s → s.size ≤ 9223372036854775807 ∧ ∃ b o, a = some ⟨b, o, none⟩ ∧ w.cell? ⟨b, o + i, none⟩ = some (.string s)
theorem TextsAt.later {w w' : World} {a : Option Addr} {l : List ByteArray} (h : TextsAt w a l) (u : Ext w w') : TextsAt w' a l := fun i s hs => by
  obtain ⟨h1, b, o, h2, h3⟩ := h i s hs
  exact ⟨h1, b, o, h2, Ext.cellv u h3⟩
theorem text_at {w : World} {a : Option Addr} {l : List ByteArray} (h : TextsAt w a l) (k : Nat) (hk : k < l.length) : ∃ g off, a = some ⟨g, off, none⟩ ∧ w.cell? ⟨g, off + k, none⟩ = some (.string l[k]) := by
  obtain ⟨_, b, o, h2, h3⟩ := h k _ (List.getElem?_eq_getElem hk)
  exact ⟨b, o, h2, h3⟩
def strs (l : List (List UInt8)) : List ByteArray := l.map fun b => ⟨b.toArray⟩
theorem texts_of_own {w : World} {B : Nat} {g cap n : Nat} {l : List (List UInt8)} (h : w.ownsRow B 9 1 (.slice (some ⟨g, 0, none⟩) n cap) n (l.map encStr)) (hl : ∀ x ∈ l, x.length ≤ 9223372036854775807) : TextsAt w (some ⟨g, 0, none⟩) (strs l) := fun i s hs => by
  unfold strs at hs
  rw [List.getElem?_map] at hs
  cases hx : l[i]? with
  | none => rw [hx] at hs; cases hs
  | some x =>
    rw [hx] at hs
    obtain rfl := Option.some.inj hs
    refine ⟨hl x (List.mem_of_getElem? hx), g, 0, rfl, ?_⟩
    have := h.cells (g := g) rfl i (encStr x) (by rw [List.getElem?_map, hx]; rfl)
    have ea : (⟨g, 0, none⟩ : Addr).add i = ⟨g, 0 + i, none⟩ := by unfold Addr.add; split <;> simp_all
    rw [ea] at this; exact this
set_option maxHeartbeats 2000000 in
theorem sameTexts_any {w : World} {a b : Option Addr} {l : List ByteArray} (h1 : TextsAt w a l) (h2 : TextsAt w b l) (ca cb : Nat) (hl : l.length ≤ 4611686018427387904) :
    Calls Tryz.prog 29 #[.slice a l.length ca, .slice b l.length cb] w fun e w' => e = .returned (.bool true) ∧ Ext w w' := by
  have H1 := Lib.hid h1
  have H2 := Lib.hid h2
  clear h1 h2
  go_enter Tryz.func29, Tryz.ntmps29
  go_wp2_with fail
  go_loopw [5] (fun iv wr => ∃ k : Nat, iv = .int .i64 k ∧ k ≤ l.length ∧ Ext w wr) (fun iv _ => l.length - (RowKit.intOf iv).toNat)
  case atStart => exact ⟨0, rfl, Nat.zero_le _, Upd.refl _ _⟩
  case round =>
    obtain ⟨k, rfl, hk, hx⟩ := hrel
    have HX := Lib.hid hx
    by_cases hlt : k < l.length
    · obtain ⟨g1, o1, rfl, c1⟩ := text_at (H1.out.later hx) k hlt
      obtain ⟨g2, o2, rfl, c2⟩ := text_at (H2.out.later hx) k hlt
      have hki : (k : Int) < l.length := by omega
      generalize l[k] = t at *
      clear hx
      go_wp2_with fail
      go_quiet (fail)
      go_wp2_with fail
      exact ⟨⟨k + 1, by simp, by omega, HX.out.drewN _⟩, by simp [RowKit.intOf]; omega⟩
    · obtain rfl : k = l.length := by omega
      clear hx
      have hki : ¬ (l.length : Int) < l.length := by omega
      go_wp2_with fail
      go_ret
      exact ⟨rfl, HX.out⟩

theorem names_mem (L : TxtL) (x : List UInt8) : x ∈ namesL L ↔ x ∈ L.map fun p => p.1.data.toList := by
  unfold namesL; exact (List.mergeSort_perm _ _).mem_iff
theorem names_rise {L : TxtL} (nd : (L.map (·.1)).Nodup) : (namesL L).Pairwise (· < ·) := by
  have tr : ∀ a b c : List UInt8, leB a b = true → leB b c = true → leB a c = true := fun a b c h1 h2 => by simp only [leB, decide_eq_true_eq] at *; exact List.le_trans h1 h2
  have to : ∀ a b : List UInt8, (leB a b || leB b a) = true := fun a b => by simp only [leB, Bool.or_eq_true, decide_eq_true_eq]; exact List.le_total a b
  have h1 : (namesL L).Pairwise (fun a b => leB a b = true) := List.pairwise_mergeSort tr to _
  have h2 : (namesL L).Nodup := (List.mergeSort_perm _ _).nodup_iff.2 (by
    have : (L.map fun p => p.1.data.toList) = (L.map (·.1)).map (fun s => s.data.toList) := by rw [List.map_map]; rfl
    rw [this]
    exact List.pairwise_map.2 (nd.imp fun {a b} hne e => hne (ByteArray.ext (Array.ext' e))))
  refine (h1.and h2).imp ?_
  intro a b ⟨h3, h4⟩
  simp only [leB, decide_eq_true_eq] at h3
  exact Classical.byContradiction fun h => h4 (List.le_antisymm h3 (List.not_lt.1 h))
theorem strs_at (l : List (List UInt8)) (i : Nat) (h : i < l.length) : (strs l)[i]? = some ⟨(l[i]).toArray⟩ := by simp [strs, h]
theorem strs_toList (x : List UInt8) : (⟨x.toArray⟩ : ByteArray).toList = x := by rw [ByteArray.toList_eq]
theorem names_len (L : TxtL) : (strs (namesL L)).length = L.length := by simp [strs, namesL]
theorem names_key {L : TxtL} {i : Nat} {t : ByteArray} (h : (strs (namesL L))[i]? = some t) : (lookL L t).isSome = true := by
  unfold strs at h
  rw [List.getElem?_map] at h
  cases hx : (namesL L)[i]? with
  | none => rw [hx] at h; cases h
  | some x =>
    rw [hx] at h
    obtain rfl := Option.some.inj h
    have := (names_mem L x).1 (List.mem_of_getElem? hx)
    obtain ⟨p, hp, rfl⟩ := List.mem_map.1 this
    exact (lookL_mem L _).2 (List.mem_map.2 ⟨p, hp, by simp⟩)
theorem names_less {L : TxtL} (nd : (L.map (·.1)).Nodup) {i : Nat} {s t : ByteArray} (h1 : (strs (namesL L))[i]? = some s) (h2 : (strs (namesL L))[i + 1]? = some t) : Op.bytesLess s.toList t.toList = true := by
  unfold strs at h1 h2
  rw [List.getElem?_map] at h1 h2
  cases hx : (namesL L)[i]? with
  | none => rw [hx] at h1; cases h1
  | some x =>
    cases hy : (namesL L)[i + 1]? with
    | none => rw [hy] at h2; cases h2
    | some y =>
      rw [hx] at h1
      rw [hy] at h2
      obtain rfl := Option.some.inj h1
      obtain rfl := Option.some.inj h2
      rw [strs_toList, strs_toList, bytesLess_eq]
      obtain ⟨a1, a2⟩ := List.getElem?_eq_some_iff.1 hx
      obtain ⟨b1, b2⟩ := List.getElem?_eq_some_iff.1 hy
      have := List.pairwise_iff_getElem.1 (names_rise nd) i (i + 1) a1 b1 (by omega)
      rw [a2, b2] at this
      exact decide_eq_true this
theorem names_has {L : TxtL} {t : ByteArray} (h : (lookL L t).isSome = true) : ∃ k, k < L.length ∧ (strs (namesL L))[k]? = some t := by
  obtain ⟨p, hp, e⟩ := List.mem_map.1 ((lookL_mem L t).1 h)
  have hm : t.data.toList ∈ namesL L := (names_mem L _).2 (List.mem_map.2 ⟨p, hp, by rw [e]⟩)
  obtain ⟨k, hk, hx⟩ := List.getElem_of_mem hm
  refine ⟨k, by have : (namesL L).length = L.length := by simp [namesL]
                omega, ?_⟩
  rw [strs_at _ _ hk, hx]
theorem key_le {w : World} {mb : Nat} {L : TxtL} (h : MapAt w mb L) : ∀ x ∈ namesL L, x.length ≤ 9223372036854775807 := by
  obtain ⟨D, ho, _, h2, _⟩ := h.ex
  intro x hx
  obtain ⟨p, hp, rfl⟩ := List.mem_map.1 ((names_mem L x).1 hx)
  have hs : Maps.has D (keyLit p.1) = true := by rw [h2]; exact (lookL_mem L _).2 (List.mem_map.2 ⟨p, hp, rfl⟩)
  obtain ⟨es, hD, hko⟩ := ho.keysOf
  subst hD
  rw [Maps.has_eq, List.any_eq_true] at hs
  obtain ⟨q, hq, he⟩ := hs
  obtain ⟨v, hv⟩ := hko q hq
  obtain ⟨y, _, hy, hl⟩ := Maps.keyOf_str Tryz.underlying9 hv
  rw [hy] at he
  have : y = p.1.data.toList := by simpa [Lit.sameKey, keyLit] using he
  rw [← this]; exact hl
end Go.Proofs.YtdkhnkhflbefbaaGreatDoor
