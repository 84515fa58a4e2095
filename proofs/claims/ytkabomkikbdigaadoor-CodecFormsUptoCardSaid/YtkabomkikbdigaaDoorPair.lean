/- A reader and a writer that the caller has made: they share nothing. -/
import Derived.Test.YtkabomkikbdigaaDoorTook2
import Derived.Test.YtkabomkikbdigaaDoorEqual
import Derived.Test.YtkabomkikbdigaaDoorStays
namespace Go.Proofs.YtkabomkikbdigaaDoor
open Go.RowKit Go.Lib

/-- Since the world w: a reader has been made, at rb, and a writer, at wb. -/
structure Pair (n : Nat) (se : Nat → Addr) (w w' : World) (rb : Nat) (x : RdD) (wb : Nat) (xs : List UInt8) : Prop where
  g : Genv n se w'
  e : Ext w w'
  hn : w.heap.size ≤ n
  ex : ∃ S T : Nat → Prop, Reader n se w' S rb x ∧ Writer n w' T wb xs ∧ ∀ k, S k → ¬ T k
section
variable {n : Nat} {se : Nat → Addr} {w w1 w2 : World} {rb wb : Nat} {x : RdD} {xs : List UInt8}
theorem Pair.ext (h : Pair n se w w1 rb x wb xs) (u : Ext w1 w2) : Pair n se w w2 rb x wb xs := by
  obtain ⟨S, T, h1, h2, h3⟩ := h.ex
  exact ⟨h.g.ext u, h.e.thenExt u, h.hn, S, T, h1.ext u, h2.upd u (fun _ _ => id), h3⟩
theorem pair_new (h : OwnR n se w w1 rb x) : Calls Tryd.prog 13 #[] w1 fun e w' => e = .returned (.pointer (some ⟨w1.heap.size, 0, none⟩)) ∧ Pair n se w w' rb x w1.heap.size [] :=
  (newWriter_ok w1).mono (by
    rintro e w' ⟨rfl, rfl⟩
    have X := (Upd.refl none' w1).alloc (.cells #[.slice none 0 0, .bool true] 30)
    have h2 := h.ext X
    refine ⟨rfl, h2.g, h2.e, h.hn, _, _, h.r.ext X, newWriter_is w1 n h.g.size, fun k hk e => ?_⟩
    have e : k = w1.heap.size := e
    have := hk.2
    omega)
theorem Pair.took (h : Pair n se w w1 rb x wb xs) (t : ThingD) (ht : t.Ok) :
    Calls Tryd.prog 31 #[.pointer (some ⟨rb, 0, none⟩), .agg (thingCells t).toArray] w1 fun e w' => e = .returned (.agg (thingCells (tookD x t).1).toArray) ∧ Pair n se w w' rb (tookD x t).2 wb xs := by
  obtain ⟨S, T, h1, h2, h3⟩ := h.ex
  refine (took_ok h.g h1 t ht).mono ?_
  rintro e w' ⟨rfl, a, u⟩
  have hb := h1.low rb h1.mem
  refine ⟨rfl, h.g.below (u.below h.g.size (fun k hk => by have e : k = rb := hk; omega)), Upd.oneExt h.e (Nat.le_trans h.hn hb) u, h.hn, _, T, a, h2.upd u (fun p hp hq => ?_), fun k hk ht => ?_⟩
  · have e : p = rb := hq
    subst e
    exact h3 _ h1.mem hp
  · rcases hk with hk | hk
    · exact h3 k hk ht
    · have := h2.lt k ht; omega
theorem Pair.put (h : Pair n se w w1 rb x wb xs) (t : ThingD) (ht : t.Ok) (hz : t.t.size ≤ 1048576) (hl : xs.length + 1048676 ≤ 1099511627776) :
    Calls Tryd.prog 17 #[.pointer (some ⟨wb, 0, none⟩), .agg (thingCells t).toArray] w1 fun e w' => ∃ v, e = .returned v ∧ ErrIs se w' v (formE t) ∧ Pair n se w w' rb x wb (xs ++ formB t) := by
  obtain ⟨S, T, h1, h2, h3⟩ := h.ex
  refine (putT_ok h.g h2 t ht hz hl).mono ?_
  rintro e w' ⟨v, rfl, hv, a, u⟩
  refine ⟨v, rfl, hv, h.g.below (u.below h.g.size (fun k hk => h2.low k hk)), h.e.then u (fun b hb hk => by have := h2.low b hk; have := h.hn; omega), h.hn, S, _, h1.upd u h3, a, fun k hk ht => ?_⟩
  rcases ht with ht | ht
  · exact h3 k hk ht
  · have := h1.lt k hk; omega
theorem Pair.end (h : Pair n se w w1 rb x wb xs) : Calls Tryd.prog 27 #[.pointer (some ⟨rb, 0, none⟩)] w1 fun e w' => ∃ v, e = .returned v ∧ ErrIs se w' v x.fin ∧ Pair n se w w' rb x wb xs := by
  obtain ⟨S, T, h1, h2, h3⟩ := h.ex
  exact (end_ok h.g h1).mono (by rintro e w' ⟨v, rfl, hv, u⟩; exact ⟨v, rfl, hv, h.ext u⟩)
theorem Pair.done (h : Pair n se w w1 rb x wb xs) : Calls Tryd.prog 19 #[.pointer (some ⟨wb, 0, none⟩)] w1 fun e w' => e = .returned (.string (str xs)) ∧ w1 = w' := by
  obtain ⟨S, T, h1, h2, h3⟩ := h.ex
  exact wdone_ok h2
theorem Pair.wf (h : Pair n se w w1 rb x wb xs) : (x.f = none → x.pos ≤ x.s.size) ∧ x.s.size ≤ 9223372036854775807 := by
  obtain ⟨S, T, h1, _⟩ := h.ex
  refine ⟨fun hf => ?_, h1.sz⟩
  obtain ⟨fv, a, _, h1, h2, _, _⟩ := h1.ex
  rw [← h2 hf]; exact h1
end
end Go.Proofs.YtkabomkikbdigaaDoor
