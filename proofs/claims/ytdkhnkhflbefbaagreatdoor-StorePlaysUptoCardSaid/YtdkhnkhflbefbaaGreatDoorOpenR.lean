/- Arguments that are rows, opened: any element's type, by what one element is. -/
import Derived.Test.YtdkhnkhflbefbaaGreatDoorArgs
namespace Go.Proofs.YtdkhnkhflbefbaaGreatDoor
open Go.ChangeShapes Go.WideShapes Go.ChangeAt Go.RowKit Go.Lib Go.Deep

/-- A row in memory: its elements' cells, n each. -/
def RowsAt {α : Type} (f : α → List Value) (n : Nat) (w : World) (a : Option Addr) (xs : List α) : Prop := ∀ (i : Nat) (x : α), xs[i]? = some x → ∃ b o, a = some ⟨b, o, none⟩ ∧ ∀ (j : Nat) (v : Value), (f x)[j]? = some v → w.cell? ⟨b, o + i * n + j, none⟩ = some v
theorem RowsAt.ext {α : Type} {f : α → List Value} {n : Nat} {w w' : World} {a : Option Addr} {xs : List α} (h : RowsAt f n w a xs) (u : Ext w w') : RowsAt f n w' a xs := fun i x hx => by
  obtain ⟨b, o, e, hc⟩ := h i x hx
  exact ⟨b, o, e, fun j v hv => u.cellv (hc j v hv)⟩
theorem RowsAt.nil {α : Type} (f : α → List Value) (n : Nat) (w : World) (a : Option Addr) : RowsAt f n w a [] := fun i x hx => by cases hx
section
variable {H : Type} {enc : TypeId × Value → H} {w : World}
set_option maxRecDepth 20000 in
theorem rows_trod {α : Type} (f : α → List Value) (n : Nat) (P : α → Prop) (x0 : α) {t e : TypeId} (hu : Tryz.prog.underlying t = some (.slice e)) (hn : Tryz.prog.cellsOf e = n)
    (hel : ∀ (fuel : Nat) (cs : List Value) (y : DataW H × List MemPlace), DataW.trod enc Tryz.prog w 0 (fun _ => true) true fuel e cs = some y → ∃ x, cs = f x ∧ P x)
    {r : Reach} {b0 fuel : Nat} {c : Value} {y : DataW H × List MemPlace} (hval : Value.okWide Tryz.prog w r b0 t c) (h : DataW.trod enc Tryz.prog w 0 (fun _ => true) true fuel t [c] = some y) :
    ∃ (a : Option Addr) (cap : Nat) (xs : List α), c = .slice a xs.length cap ∧ xs.length ≤ 9223372036854775807 ∧ (∀ x ∈ xs, P x) ∧ RowsAt f n w a xs := by
  rcases open_slice hu h with ⟨h0, h1⟩ | ⟨a', len', cap', m, _, D, Pl, hcs, _, hl, hm, hmm, hx, hi⟩
  · simp at h0
    subst h0
    exact ⟨none, 0, [], rfl, by simp, fun x hx => (by cases hx), RowsAt.nil _ _ _ _⟩
  · simp at hcs
    subst hcs
    rw [if_pos rfl] at hmm
    subst hmm
    have hsp := spot_none hu hval
    rw [hn] at hi
    have key : ∀ i, ∃ x : α, i < len' → P x ∧ w.cells? 0 (a'.add (i * n)) n = some (f x) := fun i => by
      by_cases hlt : i < len'
      · obtain ⟨cs, hc, ht⟩ := hi i (by omega)
        obtain ⟨x, rfl, h2⟩ := hel _ _ _ ht
        exact ⟨x, fun _ => ⟨h2, hc⟩⟩
      · exact ⟨x0, fun e => absurd e hlt⟩
    obtain ⟨g, hgx⟩ := Classical.axiomOfChoice key
    have hlen : ((List.range len').map g).length = len' := by simp
    refine ⟨some a', m, (List.range len').map g, by rw [hlen], by rw [hlen]; have : m ≤ 9223372036854775807 := hm; omega, fun t ht => ?_, fun i x hxi => ?_⟩
    · obtain ⟨i, hi2, rfl⟩ := List.mem_map.1 ht
      exact (hgx i (List.mem_range.1 hi2)).1
    · obtain ⟨h1, h2⟩ := List.getElem?_eq_some_iff.1 hxi
      rw [hlen] at h1
      simp only [List.getElem_map, List.getElem_range] at h2
      subst h2
      obtain ⟨e1, e2⟩ := hgx i h1
      obtain ⟨_, hl2, hc⟩ := World.cells?_some e2
      obtain ⟨b, o, s⟩ := a'
      simp only at hsp
      subst hsp
      refine ⟨b, o, rfl, fun j v hv => ?_⟩
      have hj : j < n := by
        have := (List.getElem?_eq_some_iff.1 hv).1
        rw [hl2] at this; exact this
      have := hc j hj
      rw [hv] at this
      have e : ((⟨b, o, none⟩ : Addr).add (i * n)).add j = ⟨b, o + i * n + j, none⟩ := by
        unfold Addr.add
        split <;> split <;> simp_all
      rw [e] at this; exact this
set_option maxRecDepth 20000 in
theorem rows_open {α : Type} (f : α → List Value) (n : Nat) (P : α → Prop) (x0 : α) {t e : TypeId} (hu : Tryz.prog.underlying t = some (.slice e)) (hn : Tryz.prog.cellsOf e = n)
    (hel : ∀ (fuel : Nat) (cs : List Value) (y : DataW H × List MemPlace), DataW.trod enc Tryz.prog w 0 (fun _ => true) true fuel e cs = some y → ∃ x, cs = f x ∧ P x)
    {r : Reach} {b0 : Nat} {v : Value} {d : DataW H} {p : List MemPlace} (hval : Value.okWide Tryz.prog w r b0 t v) (h : DataW.Trod enc Tryz.prog w 0 (fun _ => true) true t v d p) :
    ∃ (a : Option Addr) (cap : Nat) (xs : List α), v = .slice a xs.length cap ∧ xs.length ≤ 9223372036854775807 ∧ (∀ x ∈ xs, P x) ∧ RowsAt f n w a xs := by
  obtain ⟨a, len, cap, rfl⟩ := okWide_slice hu hval
  obtain ⟨fuel, hf⟩ := h
  exact rows_trod f n P x0 hu hn hel hval hf
end
end Go.Proofs.YtdkhnkhflbefbaaGreatDoor
