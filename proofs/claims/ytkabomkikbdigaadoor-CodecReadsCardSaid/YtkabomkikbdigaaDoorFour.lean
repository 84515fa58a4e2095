/- Four writers: two that the caller has made, none, and one that nobody made. -/
import Derived.Test.YtkabomkikbdigaaDoorLives
import Derived.Test.YtkabomkikbdigaaDoorEqual
import Derived.Test.YtkabomkikbdigaaDoorBulk
namespace Go.Proofs.YtkabomkikbdigaaDoor
open Go.RowKit Go.Lib

theorem sameB_self (x : EV) (h : ∀ k n, x = some (k, some n) → 1 ≤ k ∧ 0 ≤ n) : sameB x (faultC x) (faultA x) = true := by
  match x, h with
  | none, _ => rfl
  | some (k, none), _ => simp [sameB, faultC, faultA, codeOf, placed]
  | some (k, some n), h =>
    have h1 := h k n rfl
    show (if n = -1 then _ else isAtB (some (k, some n)) k n) = true
    rw [if_neg (by omega)]
    unfold isAtB
    rw [if_neg (by simp [codeOf]; omega)]
    simp [placed, placeOf]
def ptrs (a0 a1 a3 : Nat) : Nat → Value
  | 0 => .pointer (some ⟨a0, 0, none⟩)
  | 1 => .pointer (some ⟨a1, 0, none⟩)
  | 2 => .pointer none
  | _ => .pointer (some ⟨a3, 0, none⟩)
def ptrRow (a0 a1 a3 : Nat) : Array Value := #[ptrs a0 a1 a3 0, ptrs a0 a1 a3 1, ptrs a0 a1 a3 2, ptrs a0 a1 a3 3]
theorem ptrRow_at (a0 a1 a3 k : Nat) (hk : k < 4) : (ptrRow a0 a1 a3)[k]? = some (ptrs a0 a1 a3 k) := by
  match k, hk with
  | 0, _ => rfl
  | 1, _ => rfl
  | 2, _ => rfl
  | 3, _ => rfl
def addTo (x : Nat → List UInt8) (k : Nat) (l : List UInt8) : Nat → List UInt8 := fun j => if j = k then x j ++ l else x j
def wantRow (x : Nat → List UInt8) : Array Value := #[.string (str (x 0)), .string (str (x 1)), .string (str (x 2)), .string (str (x 3))]
theorem wantRow_at (x : Nat → List UInt8) (k : Nat) (hk : k < 4) : (wantRow x)[k]? = some (.string (str (x k))) := by
  match k, hk with
  | 0, _ => rfl
  | 1, _ => rfl
  | 2, _ => rfl
  | 3, _ => rfl
theorem wantRow_set (x : Nat → List UInt8) (k : Nat) (l : List UInt8) (hk : k < 4) : (wantRow x).setIfInBounds k (.string (str (x k ++ l))) = wantRow (addTo x k l) := by
  match k, hk with
  | 0, _ => rfl
  | 1, _ => rfl
  | 2, _ => rfl
  | 3, _ => rfl
def wE (k : Nat) (t : ThingD) : EV := if k < 2 then formE t else idleE t
def wB (k : Nat) (t : ThingD) : List UInt8 := if k < 2 then formB t else []
structure Four (n : Nat) (A : Nat → Prop) (se : Nat → Addr) (w w' : World) (a0 a1 a3 : Nat) (x : Nat → List UInt8) : Prop where
  g : Genv n se w'
  e : Ext w w'
  hn : w.heap.size ≤ n
  hA : ∀ k, A k → k < w'.heap.size
  un : w'.heap[a3]? = some (.cells #[.slice none 0 0, .bool false] 30 (0, 0))
  una : ¬ A a3
  x2 : x 2 = []
  x3 : x 3 = []
  ex : ∃ T0 T1 : Nat → Prop, Writer n w' T0 a0 (x 0) ∧ Writer n w' T1 a1 (x 1) ∧ (∀ k, T0 k → ¬ T1 k) ∧ (∀ k, T0 k → A k) ∧ (∀ k, T1 k → A k)
section
variable {n : Nat} {A S : Nat → Prop} {se : Nat → Addr} {w w1 w2 : World} {a0 a1 a3 : Nat} {x : Nat → List UInt8}
theorem Four.upd (h : Four n A se w w1 a0 a1 a3 x) (u : Upd S w1 w2) (hS : ∀ k, S k → n ≤ k ∧ ¬ A k ∧ k ≠ a3) : Four n A se w w2 a0 a1 a3 x := by
  obtain ⟨T0, T1, h1, h2, h3, h4, h5⟩ := h.ex
  exact ⟨h.g.below (u.below h.g.size (fun k hk => (hS k hk).1)), h.e.then u (fun b hb hk => by have := (hS b hk).1; have := h.hn; omega), h.hn, fun k hk => Nat.lt_of_lt_of_le (h.hA k hk) u.size, u.blk h.un (fun hk => (hS _ hk).2.2 rfl), h.una, h.x2, h.x3, T0, T1, h1.upd u (fun g hg e => (hS g e).2.1 (h4 g hg)), h2.upd u (fun g hg e => (hS g e).2.1 (h5 g hg)), h3, h4, h5⟩
theorem Four.ext (h : Four n A se w w1 a0 a1 a3 x) (u : Ext w1 w2) : Four n A se w w2 a0 a1 a3 x := h.upd u (fun _ hk => hk.elim)
theorem Four.start {B : Nat} (G : Genv B se w) : Four w.heap.size (fun k => k = w.heap.size ∨ k = w.heap.size + 1) se w (((w.alloc (.cells #[.slice none 0 0, .bool true] 30)).alloc (.cells #[.slice none 0 0, .bool true] 30)).alloc (.cells #[.slice none 0 0, .bool false] 30)) w.heap.size (w.heap.size + 1) (w.heap.size + 2) (fun _ => []) := by
  have X1 := (Upd.refl none' w).alloc (.cells #[.slice none 0 0, .bool true] 30)
  have X2 := (Upd.refl none' (w.alloc (.cells #[.slice none 0 0, .bool true] 30))).alloc (.cells #[.slice none 0 0, .bool true] 30)
  have X3 := (Upd.refl none' ((w.alloc (.cells #[.slice none 0 0, .bool true] 30)).alloc (.cells #[.slice none 0 0, .bool true] 30))).alloc (.cells #[.slice none 0 0, .bool false] 30)
  have X := X1.thenExt (X2.thenExt X3)
  have W0 := ((newWriter_is w w.heap.size (Nat.le_refl _)).upd X2 (fun _ _ => id)).upd X3 (fun _ _ => id)
  have W1 := (newWriter_is (w.alloc (.cells #[.slice none 0 0, .bool true] 30)) w.heap.size (by simp)).upd X3 (fun _ _ => id)
  have hb := blk_alloc ((w.alloc (.cells #[.slice none 0 0, .bool true] 30)).alloc (.cells #[.slice none 0 0, .bool true] 30)) (.cells #[.slice none 0 0, .bool false] 30)
  simp only [World.size_alloc] at W1 hb
  refine ⟨(G.up G.size (Nat.le_refl _)).ext X, X, Nat.le_refl _, fun k hk => by simp; omega, hb, by omega, rfl, rfl, _, _, W0, W1, fun k h1 h2 => ?_, fun k h1 => .inl h1, fun k h1 => .inr h1⟩
  have e1 : k = w.heap.size := h1
  have e2 : k = w.heap.size + 1 := h2
  omega
theorem Four.idle (h : Four n A se w w1 a0 a1 a3 x) (k : Nat) (hk : k < 4) (hk2 : ¬ k < 2) : Idle (ptrs a0 a1 a3 k) w1 := by
  match k, hk, hk2 with
  | 0, _, h => exact absurd (by omega) h
  | 1, _, h => exact absurd (by omega) h
  | 2, _, _ => exact .inl rfl
  | 3, _, _ => exact .inr ⟨a3, rfl, h.un⟩
theorem Four.done (h : Four n A se w w1 a0 a1 a3 x) (k : Nat) (hk : k < 4) : Calls Tryd.prog 19 #[ptrs a0 a1 a3 k] w1 fun e w' => e = .returned (.string (str (x k))) ∧ w1 = w' := by
  obtain ⟨T0, T1, h1, h2, _⟩ := h.ex
  match k, hk with
  | 0, _ => exact wdone_ok h1
  | 1, _ => exact wdone_ok h2
  | 2, _ => rw [h.x2]; exact wdone_idle (h.idle 2 (by omega) (by omega))
  | 3, _ => rw [h.x3]; exact wdone_idle (h.idle 3 (by omega) (by omega))
theorem Four.put (h : Four n A se w w1 a0 a1 a3 x) (k : Nat) (hk : k < 4) (t : ThingD) (ht : t.Ok) (hz : t.t.size ≤ 1048576) (hl : (x k).length + 1048676 ≤ 1099511627776) :
    Calls Tryd.prog 17 #[ptrs a0 a1 a3 k, .agg (thingCells t).toArray] w1 fun e w' => ∃ v, e = .returned v ∧ ErrIs se w' v (wE k t) ∧ Four n (plus A w1.heap.size w'.heap.size) se w w' a0 a1 a3 (addTo x k (wB k t)) ∧ Upd A w1 w' := by
  obtain ⟨T0, T1, h1, h2, h3, h4, h5⟩ := h.ex
  have hlt3 := lt_of_blk h.un
  by_cases hk2 : k < 2
  · have e1 : wE k t = formE t := if_pos hk2
    have e2 : wB k t = formB t := if_pos hk2
    rw [e1, e2]
    have hu3 : ∀ m, ¬ plus A w1.heap.size m a3 := fun m hk => hk.elim h.una (fun hk => by omega)
    match k, hk2, hl with
    | 0, _, hl =>
      refine (putT_ok h.g h1 t ht hz hl).mono ?_
      rintro e w' ⟨v, rfl, hv, a, u⟩
      have hs := u.size
      refine ⟨v, rfl, hv, ⟨h.g.below (u.below h.g.size (fun k hk => h1.low k hk)), h.e.then u (fun b hb hk => by have := h1.low b hk; have := h.hn; omega), h.hn, fun k hk => hk.elim (fun hk => Nat.lt_of_lt_of_le (h.hA k hk) hs) (fun hk => hk.2), u.blk h.un (fun hk => h.una (h4 _ hk)), hu3 _, h.x2, h.x3, _, T1, a, h2.upd u (fun g hg e => h3 g e hg), fun k hk hk1 => ?_, fun k hk => hk.imp (h4 k) id, fun k hk => .inl (h5 k hk)⟩, u.mono (fun b _ hb => h4 b hb)⟩
      rcases hk with hk | hk
      · exact h3 k hk hk1
      · have := h.hA k (h5 k hk1); omega
    | 1, _, hl =>
      refine (putT_ok h.g h2 t ht hz hl).mono ?_
      rintro e w' ⟨v, rfl, hv, a, u⟩
      have hs := u.size
      refine ⟨v, rfl, hv, ⟨h.g.below (u.below h.g.size (fun k hk => h2.low k hk)), h.e.then u (fun b hb hk => by have := h2.low b hk; have := h.hn; omega), h.hn, fun k hk => hk.elim (fun hk => Nat.lt_of_lt_of_le (h.hA k hk) hs) (fun hk => hk.2), u.blk h.un (fun hk => h.una (h5 _ hk)), hu3 _, h.x2, h.x3, T0, _, h1.upd u h3, a, fun k hk hk1 => ?_, fun k hk => .inl (h4 k hk), fun k hk => hk.imp (h5 k) id⟩, u.mono (fun b _ hb => h5 b hb)⟩
      rcases hk1 with hk1 | hk1
      · exact h3 k hk hk1
      · have := h.hA k (h4 k hk); omega
  · have e1 : wE k t = idleE t := if_neg hk2
    have e2 : addTo x k (wB k t) = x := by
      unfold addTo wB
      rw [if_neg hk2]
      funext j
      split <;> simp
    rw [e1, e2]
    refine (putT_idle h.g (h.idle k hk hk2) t ht hz).mono ?_
    rintro e w' ⟨v, rfl, hv, u⟩
    have hs := u.size
    have hF := h.ext u
    obtain ⟨T0, T1, h1, h2, h3, h4, h5⟩ := hF.ex
    exact ⟨v, rfl, hv, ⟨hF.g, hF.e, hF.hn, fun k hk => hk.elim (fun hk => Nat.lt_of_lt_of_le (h.hA k hk) hs) (fun hk => hk.2), hF.un, fun hk => hk.elim h.una (fun hk => by omega), h.x2, h.x3, T0, T1, h1, h2, h3, fun k hk => .inl (h4 k hk), fun k hk => .inl (h5 k hk)⟩, Upd.ext u _⟩
end
end Go.Proofs.YtkabomkikbdigaaDoor
