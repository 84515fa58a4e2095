/- A writer and the blocks beside it that the caller owns (D): each call as one step. -/
import Derived.Test.YtkdhjighomnooaaDoorWire
namespace Go.Proofs.YtkdhjighomnooaaDoor
open Go.RowKit Go.Lib

structure WrS (n : Nat) (se : Nat → Addr) (w w' : World) (D : Nat → Prop) (b : Nat) (xs : List UInt8) : Prop where
  g : Genv n se w'
  e : Ext w w'
  hn : w.heap.size ≤ n
  r : ∃ A, Writer n w' A b xs ∧ ∀ k, A k → ¬ D k
  d : ∀ k, D k → n ≤ k ∧ k < w'.heap.size
def notD (D : Nat → Prop) (n : Nat) : Nat → Prop := fun k => n ≤ k ∧ ¬ D k
section
variable {n : Nat} {se : Nat → Addr} {w w1 w2 : World} {D : Nat → Prop} {b : Nat} {xs ys : List UInt8}
theorem WrS.turn (h : WrS n se w w1 D b xs) (u : Upd D w1 w2) : WrS n se w w2 D b xs := by
  obtain ⟨A, r, hA⟩ := h.r
  have hs := u.size
  exact ⟨h.g.below (u.below h.g.size (fun k hk => (h.d k hk).1)), h.e.then u (fun k hk hd => by have := (h.d k hd).1; have := h.hn; omega), h.hn, ⟨A, r.upd u hA, hA⟩, fun k hk => ⟨(h.d k hk).1, by have := (h.d k hk).2; omega⟩⟩
theorem WrS.ext (h : WrS n se w w1 D b xs) (u : Ext w1 w2) : WrS n se w w2 D b xs := h.turn (u.ext D)
theorem WrS.grow (h : WrS n se w w1 D b xs) (u : Upd D w1 w2) : WrS n se w w2 (plus D w1.heap.size w2.heap.size) b xs := by
  obtain ⟨A, r, hA⟩ := h.r
  have hs := u.size
  have hg := h.g.size
  refine ⟨h.g.below (u.below h.g.size (fun k hk => (h.d k hk).1)), h.e.then u (fun k hk hd => by have := (h.d k hd).1; have := h.hn; omega), h.hn, ⟨A, r.upd u hA, fun k hk hd => hd.elim (hA k hk) (fun h2 => by have := r.lt k hk; have := h2.1; omega)⟩, fun k hk => ?_⟩
  rcases hk with hk | hk
  · exact ⟨(h.d k hk).1, by have := (h.d k hk).2; omega⟩
  · exact ⟨by have := hk.1; omega, hk.2⟩
theorem WrS.op (h : WrS n se w w1 D b xs) {f : FuncId} {args : Array Value} {v : Value} (k : ∀ A, Writer n w1 A b xs → Calls Tryd.prog f args w1 fun e w' => e = .returned v ∧ Writer n w' (plus A w1.heap.size w'.heap.size) b ys ∧ Upd A w1 w') :
    Calls Tryd.prog f args w1 fun e w' => e = .returned v ∧ WrS n se w w' D b ys ∧ Upd (notD D n) w1 w' := by
  obtain ⟨A, r, hA⟩ := h.r
  refine (k A r).mono ?_
  rintro e w' ⟨rfl, r2, u⟩
  have hs := u.size
  have u2 : Upd (notD D n) w1 w' := u.mono (fun k _ hk => ⟨r.low k hk, hA k hk⟩)
  refine ⟨rfl, ⟨h.g.below (u.below h.g.size (fun k hk => r.low k hk)), h.e.then u (fun k hk hd => by have := r.low k hd; have := h.hn; omega), h.hn, ⟨_, r2, fun k hk hd => hk.elim (fun hk => hA k hk hd) (fun hk => by have := (h.d k hd).2; have := hk.1; omega)⟩, fun k hk => ⟨(h.d k hk).1, by have := (h.d k hk).2; omega⟩⟩, u2⟩
theorem WrS.var (h : WrS n se w w1 D b xs) (x : Nat) (hx : x < 18446744073709551616) (hl : xs.length + 10 ≤ 1099511627776) :
    Calls Tryd.prog 28 #[.pointer (some ⟨b, 0, none⟩), .int .u64 x] w1 fun e w' => e = .returned (.tuple #[]) ∧ WrS n se w w' D b (xs ++ varB x) ∧ Upd (notD D n) w1 w' := h.op (fun _ r => wvar_ok r x hx h.g.size hl)
theorem WrS.fixed (h : WrS n se w w1 D b xs) (x k : Nat) (hn2 : x < 18446744073709551616) (hk : 1 ≤ k) (hk2 : k ≤ 8) (hn : k < 8 → x / 2 ^ (8 * k) = 0) (hl : xs.length + 8 ≤ 1099511627776) :
    Calls Tryd.prog 26 #[.pointer (some ⟨b, 0, none⟩), .int .u64 x, .int .i64 k] w1 fun e w' => e = .returned .nilIface ∧ WrS n se w w' D b (xs ++ fixB k x) ∧ Upd (notD D n) w1 w' := h.op (fun _ r => wfixed_ok r x k hn2 hk hk2 hn h.g.size hl)
theorem WrS.text (h : WrS n se w w1 D b xs) (s : ByteArray) (hl : xs.length + 10 + s.size ≤ 1099511627776) :
    Calls Tryd.prog 30 #[.pointer (some ⟨b, 0, none⟩), .string s] w1 fun e w' => e = .returned (.tuple #[]) ∧ WrS n se w w' D b (xs ++ (varB s.size ++ s.data.toList)) ∧ Upd (notD D n) w1 w' := h.op (fun _ r => wtext_ok r s h.g.size hl)
theorem WrS.own (h : WrS n se w w1 D b xs) : Own n se w w1 b xs := by
  obtain ⟨A, r, _⟩ := h.r
  exact ⟨h.g, h.e, h.hn, r.weaken (fun k hk => ⟨r.low k hk, r.lt k hk⟩) (fun k hk => hk)⟩
theorem WrS.new (hg : Genv n se w1) (he : Ext w w1) (hn : w.heap.size ≤ n) (hd : ∀ k, D k → n ≤ k ∧ k < w1.heap.size) :
    Calls Tryd.prog 25 #[] w1 fun e w' => e = .returned (.pointer (some ⟨w1.heap.size, 0, none⟩)) ∧ WrS n se w w' D w1.heap.size [] ∧ Ext w1 w' := by
  have X := (Upd.refl none' w1).alloc (.cells #[.slice none 0 0, .bool true] 104)
  refine (newWriter_ok w1).mono ?_
  rintro e w' ⟨rfl, rfl⟩
  exact ⟨rfl, ⟨hg.ext X, he.trans (X.mono (fun _ _ h => h)), hn, ⟨_, newWriter_is w1 n hg.size, fun k hk hd2 => by cases hk; have := (hd _ hd2).2; omega⟩, fun k hk => ⟨(hd k hk).1, by have := (hd k hk).2; simp; omega⟩⟩, X⟩
theorem WrS.keep (h : WrS n se w w1 D b xs) (u : Upd (notD D n) w1 w2) {k : Nat} {o : Obj} (hk : w1.heap[k]? = some o) (hd : D k ∨ k < n) : w2.heap[k]? = some o :=
  u.blk hk (fun hh => hd.elim (fun hd => hh.2 hd) (fun hd => by have := hh.1; omega))
end
end Go.Proofs.YtkdhjighomnooaaDoor
