/- taken: the things that are put without an error, and what was put. -/
import Derived.Test.YtkabomkikbdigaaDoorStays
import Derived.Test.YtkabomkikbdigaaDoorForms2
import Derived.Test.YtkabomkikbdigaaDoorBulk
namespace Go.Proofs.YtkabomkikbdigaaDoor
open Go.RowKit Go.Lib

def okT (t : ThingD) : Bool := (formE t).isNone
def putIn (t : ThingD) : ThingD := if t.kind % 4 = 2 then { t with wd := t.t.size } else t
def takenL (ts : List ThingD) : List ThingD := (ts.filter okT).map putIn
def takenB (ts : List ThingD) : List UInt8 := ts.flatMap formB
theorem putIn_ok {t : ThingD} (h : t.Ok) : (putIn t).Ok := by
  unfold putIn
  split
  · exact ⟨h.who1, h.who2, h.kind1, h.kind2, h.n, (show (-9223372036854775808 : Int) ≤ (t.t.size : Int) by omega), (show (t.t.size : Int) ≤ 9223372036854775807 by have := h.t; omega), h.t, h.h⟩
  · exact h
theorem takenL_snoc (ts : List ThingD) (t : ThingD) : takenL (ts ++ [t]) = if okT t then takenL ts ++ [putIn t] else takenL ts := by
  unfold takenL
  rw [List.filter_append, List.map_append]
  cases h : okT t <;> simp [h]
theorem takenB_snoc (ts : List ThingD) (t : ThingD) : takenB (ts ++ [t]) = takenB ts ++ formB t := by simp [takenB]
theorem weight_snoc (ts : List ThingD) (t : ThingD) : bulks.weight (ts ++ [t]) = bulks.weight ts + (39 + t.t.size) := by simp [bulks.weight]
theorem takenB_len (ts : List ThingD) (h : ∀ t ∈ ts, t.Ok) : (takenB ts).length ≤ bulks.weight ts := by
  induction ts with
  | nil => simp [takenB]
  | cons t ts ih =>
    have h1 := formB_len t (h t (by simp))
    have h2 := ih (fun u hu => h u (by simp [hu]))
    simp only [takenB, bulks.weight, List.flatMap_cons, List.length_append, List.map_cons, List.sum_cons] at h2 ⊢
    omega
theorem takenL_len (ts : List ThingD) : (takenL ts).length ≤ ts.length := by
  unfold takenL
  rw [List.length_map]; exact List.length_filter_le _ _
theorem weight_take (ts : List ThingD) (i : Nat) : bulks.weight (ts.take i) ≤ bulks.weight ts := by
  have h : ∀ a b, bulks.weight (a ++ b) = bulks.weight a + bulks.weight b := fun a b => by simp [bulks.weight]
  have e := h (ts.take i) (ts.drop i)
  rw [List.take_append_drop] at e
  omega
theorem weight_mem (ts : List ThingD) (t : ThingD) (h : t ∈ ts) : t.t.size ≤ bulks.weight ts := by
  induction ts with
  | nil => cases h
  | cons u ts ih =>
    simp only [bulks.weight, List.map_cons, List.sum_cons] at ih ⊢
    rcases List.mem_cons.1 h with e | e
    · subst e; omega
    · have := ih e; omega
/-- A row of things that the caller has made: the slice v. -/
structure RowAt (B : Nat) (w : World) (R : Nat → Prop) (v : Value) (ls : List ThingD) : Prop where
  own : w.ownsRow B 36 37 v ls.length (ls.flatMap thingCells)
  mem : ∀ k, v.ownBlock = some k → R k
  low : ∀ k, R k → B ≤ k
theorem RowAt.upd {B : Nat} {w w' : World} {R T : Nat → Prop} {v : Value} {ls : List ThingD} (h : RowAt B w R v ls) (k : Upd T w w') (hT : ∀ g, R g → ¬ T g) : RowAt B w' R v ls :=
  ⟨ownsRow_upd h.own k (fun g hg => hT g (h.mem g hg)), h.mem, h.low⟩
/-- A writer and a row that the caller has made; their blocks lie from n on, in A. -/
structure Taken (n : Nat) (A : Nat → Prop) (se : Nat → Addr) (w w' : World) (wb : Nat) (xs : List UInt8) (v : Value) (ls : List ThingD) : Prop where
  g : Genv n se w'
  e : Ext w w'
  hn : w.heap.size ≤ n
  hA : ∀ k, A k → k < w'.heap.size
  ex : ∃ T R : Nat → Prop, Writer n w' T wb xs ∧ RowAt n w' R v ls ∧ (∀ k, T k → ¬ R k) ∧ (∀ k, T k → A k) ∧ (∀ k, R k → A k)
section
variable {n : Nat} {A S : Nat → Prop} {se : Nat → Addr} {w w1 w2 : World} {wb : Nat} {xs : List UInt8} {v : Value} {ls : List ThingD}
theorem Taken.upd (h : Taken n A se w w1 wb xs v ls) (u : Upd S w1 w2) (hS : ∀ k, S k → n ≤ k ∧ ¬ A k) : Taken n A se w w2 wb xs v ls := by
  obtain ⟨T, R, h1, h2, h3, h4, h5⟩ := h.ex
  exact ⟨h.g.below (u.below h.g.size (fun k hk => (hS k hk).1)), h.e.then u (fun b hb hk => by have := (hS b hk).1; have := h.hn; omega), h.hn, fun k hk => Nat.lt_of_lt_of_le (h.hA k hk) u.size, T, R, h1.upd u (fun g hg e => (hS g e).2 (h4 g hg)), h2.upd u (fun g hg e => (hS g e).2 (h5 g hg)), h3, h4, h5⟩
theorem Taken.ext (h : Taken n A se w w1 wb xs v ls) (u : Ext w1 w2) : Taken n A se w w2 wb xs v ls := h.upd u (fun _ hk => hk.elim)
theorem Taken.start (h : Own n se w w1 wb xs) : Taken n (rng n w1.heap.size) se w w1 wb xs (.slice none 0 0) [] :=
  ⟨h.g, h.x, h.hn, fun _ hk => hk.2, _, fun _ => False, h.w, ⟨World.ownsRow_nil _ _ _ _, fun k hk => by simp [Value.ownBlock] at hk, fun _ hk => hk.elim⟩, fun _ _ hk => hk, fun _ hk => hk, fun _ hk => hk.elim⟩
theorem Taken.put (h : Taken n A se w w1 wb xs v ls) (t : ThingD) (ht : t.Ok) (hz : t.t.size ≤ 1048576) (hl : xs.length + 1048676 ≤ 1099511627776) :
    Calls Tryd.prog 17 #[.pointer (some ⟨wb, 0, none⟩), .agg (thingCells t).toArray] w1 fun e w' => ∃ u, e = .returned u ∧ ErrIs se w' u (formE t) ∧ Taken n (plus A w1.heap.size w'.heap.size) se w w' wb (xs ++ formB t) v ls ∧ Upd A w1 w' := by
  obtain ⟨T, R, h1, h2, h3, h4, h5⟩ := h.ex
  refine (putT_ok h.g h1 t ht hz hl).mono ?_
  rintro e w' ⟨u, rfl, hv, a, k⟩
  have hs := k.size
  refine ⟨u, rfl, hv, ⟨h.g.below (k.below h.g.size (fun k hk => h1.low k hk)), h.e.then k (fun b hb hk => by have := h1.low b hk; have := h.hn; omega), h.hn, fun k hk => hk.elim (fun hk => Nat.lt_of_lt_of_le (h.hA k hk) hs) (fun hk => hk.2), _, R, a, h2.upd k (fun g hg ht => h3 g ht hg), fun k hk hr => ?_, fun k hk => hk.imp (h4 k) id, fun k hk => .inl (h5 k hk)⟩, k.mono (fun b _ hb => h4 b hb)⟩
  rcases hk with hk | hk
  · exact h3 k hk hr
  · have := h.hA k (h5 k hr); omega
theorem Taken.own (h : Taken n A se w w1 wb xs v ls) : w1.ownsRow n 36 37 v ls.length (ls.flatMap thingCells) := by
  obtain ⟨T, R, _, h2, _⟩ := h.ex
  exact h2.own
/-- .. a thing is appended. -/
theorem Taken.app (h : Taken n A se w w1 wb xs v ls) (t : ThingD) {v' : Value} (ho : w2.ownsRow n 36 37 v' (ls.length + 1) (ls.flatMap thingCells ++ thingCells t)) (hg : w1.grownBy w2 v.ownBlock) (hbl : v'.ownBlock = v.ownBlock ∨ v'.ownBlock = some w1.heap.size) :
    Taken n (plus A w1.heap.size w2.heap.size) se w w2 wb xs v' (ls ++ [t]) := by
  obtain ⟨T, R, h1, h2, h3, h4, h5⟩ := h.ex
  have U : Upd R w1 w2 := (Upd.refl R w1).grown hg (fun k hk => .inr (h2.mem k hk))
  have hs := U.size
  have hgs := h.g.size
  refine ⟨h.g.below (U.below hgs (fun k hk => h2.low k hk)), h.e.then U (fun b hb hk => by have := h2.low b hk; have := h.hn; omega), h.hn, fun k hk => hk.elim (fun hk => Nat.lt_of_lt_of_le (h.hA k hk) hs) (fun hk => hk.2), T, plus R w1.heap.size w2.heap.size, h1.upd U h3, ⟨by simpa using ho, fun k hk => ?_, fun k hk => hk.elim (h2.low k) (fun hk => by omega)⟩, fun k ht hk => ?_, fun k hk => .inl (h4 k hk), fun k hk => hk.imp (h5 k) id⟩
  · rcases hbl with e | e
    · exact .inl (h2.mem k (by rw [← e]; exact hk))
    · have hlt := (ho.lt k hk).2
      rw [e] at hk
      cases hk
      exact .inr ⟨Nat.le_refl _, hlt⟩
  · rcases hk with hk | hk
    · exact h3 k ht hk
    · have := h.hA k (h4 k ht); omega
theorem flat_at (ls : List ThingD) (h : ∀ t ∈ ls, t.h.length = 32) (i j : Nat) (t : ThingD) (hi : ls[i]? = some t) (hj : j < 37) : (ls.flatMap thingCells)[i * 37 + j]? = (thingCells t)[j]? := by
  induction ls generalizing i with
  | nil => simp at hi
  | cons u ls ih =>
    have hl := thingCells_len u (h u (by simp))
    cases i with
    | zero =>
      have e : u = t := by simpa using hi
      subst e
      rw [List.flatMap_cons, Nat.zero_mul, Nat.zero_add, List.getElem?_append_left (by omega)]
    | succ i =>
      have hi' : ls[i]? = some t := by simpa using hi
      rw [List.flatMap_cons, List.getElem?_append_right (by omega), hl, show (i + 1) * 37 + j - 37 = i * 37 + j by omega]
      exact ih (fun t ht => h t (by simp [ht])) i hi'
theorem Taken.things (h : Taken n A se w w1 wb xs v ls) (hl : ∀ t ∈ ls, t.Ok) : ∃ a cap, v = .slice a ls.length cap ∧ ThingsAt w1 a ls := by
  obtain ⟨T, R, _, h2, _⟩ := h.ex
  rcases h2.own.2 with ⟨rfl, h0⟩ | ⟨g, cap, cur, rfl, _, hg, _⟩
  · exact ⟨none, 0, by rw [h0], fun i x hx => by rw [List.length_eq_zero_iff.1 h0] at hx; simp at hx⟩
  · refine ⟨_, cap, rfl, fun i x hx => ⟨hl x (List.mem_of_getElem? hx), g, 0, rfl, lt_of_blk hg, fun j u hu => ?_⟩⟩
    have hxo := hl x (List.mem_of_getElem? hx)
    have hj : j < 37 := by
      have := (List.getElem?_eq_some_iff.1 hu).1
      rw [thingCells_len _ hxo.h] at this; exact this
    have hc := h2.own.cells (g := g) rfl (i * 37 + j) u (by rw [flat_at ls (fun t ht => (hl t ht).h) i j x hx hj]; exact hu)
    have e : (⟨g, 0, none⟩ : Addr).add (i * 37 + j) = ⟨g, 0 + i * 37 + j, none⟩ := by
      unfold Addr.add
      split
      · rename_i h0; simp only [Addr.mk.injEq, true_and, and_true]; omega
      · simp only [Addr.mk.injEq, true_and, and_true]; omega
    rw [e] at hc
    exact hc
theorem Taken.done (h : Taken n A se w w1 wb xs v ls) : Calls Tryd.prog 19 #[.pointer (some ⟨wb, 0, none⟩)] w1 fun e w' => e = .returned (.string (str xs)) ∧ w1 = w' := by
  obtain ⟨T, R, h1, _⟩ := h.ex
  exact wdone_ok h1
end
end Go.Proofs.YtkabomkikbdigaaDoor
