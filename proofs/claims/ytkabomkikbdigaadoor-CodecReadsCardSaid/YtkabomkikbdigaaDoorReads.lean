/- Four readers of the program (two that the caller has made, none, and one that nobody made) and two of the document's. -/
import Derived.Test.YtkabomkikbdigaaDoorMeant
import Derived.Test.YtkabomkikbdigaaDoorTookIdle
import Derived.Test.YtkabomkikbdigaaDoorFour
namespace Go.Proofs.YtkabomkikbdigaaDoor
open Go.RowKit Go.Lib

/-- A fault's number and place are in order. -/
def FOk (e : EV) : Prop := ∀ k n, e = some (k, n) → 1 ≤ k ∧ ∀ p, n = some p → 0 ≤ p
theorem FOk.same {e : EV} (h : FOk e) : sameB e (faultC e) (faultA e) = true := sameB_self e (fun k n he => ⟨(h k _ he).1, (h k _ he).2 n rfl⟩)
theorem fok_arg : FOk (some (2, none)) := fun k n h => by cases h; exact ⟨by decide, fun p h => by cases h⟩
theorem fok_lim : FOk (some (4, none)) := fun k n h => by cases h; exact ⟨by decide, fun p h => by cases h⟩
theorem fok_nil : FOk (some (1, none)) := fun k n h => by cases h; exact ⟨by decide, fun p h => by cases h⟩
theorem fok_in (p : Nat) : FOk (some (3, some (p : Int))) := fun k n h => by cases h; exact ⟨by decide, fun q h => by cases h; omega⟩
theorem fok_fail {x : RdD} (h : FOk x.f) {e : EV} (he : FOk e) : FOk (x.fail e).f := by
  unfold RdD.fail
  split
  · exact he
  · exact h
theorem fok_take {x : RdD} (h : FOk x.f) (n p : Nat) : FOk (x.take n p).2.f := by
  unfold RdD.take
  split
  · exact h
  · exact fok_fail h (fok_in p)
theorem fok_var {x : RdD} (h : FOk x.f) : FOk x.var.2.f := by
  unfold RdD.var
  split
  · split
    · exact h
    · exact fok_in _
  · exact h
theorem fok_fixed {x : RdD} (h : FOk x.f) (k : Int) : FOk (x.fixed k).2.f := by
  unfold RdD.fixed
  split
  · exact fok_fail h fok_arg
  · split
    · exact h
    · exact fok_take h _ _
theorem fok_text {x : RdD} (h : FOk x.f) (m : Int) : FOk (x.text m).2.f := by
  unfold RdD.text
  split
  · exact fok_fail h fok_arg
  · split
    · exact h
    · split
      · exact fok_var h
      · split
        · exact fok_fail (fok_var h) fok_lim
        · exact fok_take (fok_var h) _ _
theorem fok_hash {x : RdD} (h : FOk x.f) : FOk x.hash.2.f := by
  unfold RdD.hash
  split
  · exact h
  · exact fok_take h _ _
theorem fok_took {x : RdD} (h : FOk x.f) (t : ThingD) : FOk (tookD x t).2.f := by
  unfold tookD
  split
  · exact fok_fixed h _
  · split
    · exact fok_var h
    · split
      · exact fok_text h _
      · exact fok_hash h
theorem fok_fin {x : RdD} (h : FOk x.f) : FOk x.fin := by
  unfold RdD.fin
  split
  · exact fok_in _
  · exact h
def rptr (r0 r1 a3 : Nat) : Nat → Value
  | 0 => .pointer (some ⟨r0, 0, none⟩)
  | 1 => .pointer (some ⟨r1, 0, none⟩)
  | 2 => .pointer none
  | _ => .pointer (some ⟨a3, 0, none⟩)
def rptrRow (r0 r1 a3 : Nat) : Array Value := #[rptr r0 r1 a3 0, rptr r0 r1 a3 1, rptr r0 r1 a3 2, rptr r0 r1 a3 3]
theorem rptrRow_at (r0 r1 a3 k : Nat) (hk : k < 4) : (rptrRow r0 r1 a3)[k]? = some (rptr r0 r1 a3 k) := by
  match k, hk with
  | 0, _ => rfl
  | 1, _ => rfl
  | 2, _ => rfl
  | 3, _ => rfl
def mptr (m0 m1 : Nat) : Nat → Value
  | 0 => .pointer (some ⟨m0, 0, none⟩)
  | _ => .pointer (some ⟨m1, 0, none⟩)
def mptrRow (m0 m1 : Nat) : Array Value := #[mptr m0 m1 0, mptr m0 m1 1]
theorem mptrRow_at (m0 m1 k : Nat) (hk : k < 2) : (mptrRow m0 m1)[k]? = some (mptr m0 m1 k) := by
  match k, hk with
  | 0, _ => rfl
  | 1, _ => rfl
/-- What a read of the k-th reader answers; how the readers stand behind it. -/
def resK (x : Nat → RdD) (k : Nat) (t : ThingD) : ThingD := if k < 2 then (tookD (x k) t).1 else idleT t
def nextK (x : Nat → RdD) (k : Nat) (t : ThingD) : Nat → RdD := fun j => if j = k then (tookD (x k) t).2 else x j
def stepK (x : Nat → RdD) (k : Nat) (t : ThingD) : Nat → RdD := if k < 2 then nextK x k t else x
def leftK (x : Nat → RdD) (k : Nat) : Int := if k < 2 then (x k).left else 0
def finK (x : Nat → RdD) (k : Nat) : EV := if k < 2 then (x k).fin else some (1, none)
structure Reads (n : Nat) (A : Nat → Prop) (se : Nat → Addr) (w w' : World) (r0 r1 a3 m0 m1 : Nat) (x y : Nat → RdD) : Prop where
  g : Genv n se w'
  e : Ext w w'
  hn : w.heap.size ≤ n
  hA : ∀ k, A k → k < w'.heap.size
  un : w'.heap[a3]? = some (.cells #[.string ⟨#[]⟩, .int .i64 0, .nilIface, .bool false] 62 (0, 0))
  una : ¬ A a3
  ex : ∃ S0 S1 : Nat → Prop, Reader n se w' S0 r0 (x 0) ∧ Reader n se w' S1 r1 (x 1) ∧ (∀ k, S0 k → ¬ S1 k) ∧ (∀ k, S0 k → A k) ∧ (∀ k, S1 k → A k)
  f0 : RefAt w' m0 (y 0)
  f1 : RefAt w' m1 (y 1)
  nm0 : ¬ A m0
  nm1 : ¬ A m1
  lm : n ≤ m0 ∧ n ≤ m1 ∧ m0 ≠ m1 ∧ m0 ≠ a3 ∧ m1 ≠ a3
  okx : ∀ k, FOk (x k).f
section
variable {n : Nat} {A S : Nat → Prop} {se : Nat → Addr} {w w1 w2 : World} {r0 r1 a3 m0 m1 : Nat} {x y : Nat → RdD}
theorem Reads.upd (h : Reads n A se w w1 r0 r1 a3 m0 m1 x y) (u : Upd S w1 w2) (hS : ∀ k, S k → n ≤ k ∧ ¬ A k ∧ k ≠ a3 ∧ k ≠ m0 ∧ k ≠ m1) : Reads n A se w w2 r0 r1 a3 m0 m1 x y := by
  obtain ⟨S0, S1, h1, h2, h3, h4, h5⟩ := h.ex
  exact ⟨h.g.below (u.below h.g.size (fun k hk => (hS k hk).1)), h.e.then u (fun b hb hk => by have := (hS b hk).1; have := h.hn; omega), h.hn, fun k hk => Nat.lt_of_lt_of_le (h.hA k hk) u.size, u.blk h.un (fun hk => (hS _ hk).2.2.1 rfl), h.una, ⟨S0, S1, h1.upd u (fun g hg e => (hS g e).2.1 (h4 g hg)), h2.upd u (fun g hg e => (hS g e).2.1 (h5 g hg)), h3, h4, h5⟩,
    h.f0.upd u (fun hk => (hS _ hk).2.2.2.1 rfl), h.f1.upd u (fun hk => (hS _ hk).2.2.2.2 rfl), h.nm0, h.nm1, h.lm, h.okx⟩
theorem Reads.ext (h : Reads n A se w w1 r0 r1 a3 m0 m1 x y) (u : Ext w1 w2) : Reads n A se w w2 r0 r1 a3 m0 m1 x y := h.upd u (fun _ hk => hk.elim)
theorem Reads.idle (h : Reads n A se w w1 r0 r1 a3 m0 m1 x y) (k : Nat) (hk : k < 4) (hk2 : ¬ k < 2) : IdleR (rptr r0 r1 a3 k) w1 := by
  match k, hk, hk2 with
  | 0, _, h => exact absurd (by omega) h
  | 1, _, h => exact absurd (by omega) h
  | 2, _, _ => exact .inl rfl
  | 3, _, _ => exact .inr ⟨a3, rfl, cell_of_blk h.un 3⟩
theorem Reads.left (h : Reads n A se w w1 r0 r1 a3 m0 m1 x y) (k : Nat) (hk : k < 4) : Calls Tryd.prog 29 #[rptr r0 r1 a3 k] w1 fun e w' => e = .returned (.int .i64 (leftK x k)) ∧ Ext w1 w' := by
  obtain ⟨S0, S1, h1, h2, _⟩ := h.ex
  by_cases hk2 : k < 2
  · have e : leftK x k = (x k).left := if_pos hk2
    rw [e]
    match k, hk2 with
    | 0, _ => exact left_ok h1
    | 1, _ => exact left_ok h2
  · have e : leftK x k = 0 := if_neg hk2
    rw [e]
    exact (left_idle (h.idle k hk hk2)).mono (by rintro e w' ⟨rfl, rfl⟩; exact ⟨rfl, Upd.refl _ _⟩)
theorem Reads.end (h : Reads n A se w w1 r0 r1 a3 m0 m1 x y) (k : Nat) (hk : k < 4) : Calls Tryd.prog 27 #[rptr r0 r1 a3 k] w1 fun e w' => ∃ v, e = .returned v ∧ ErrIs se w' v (finK x k) ∧ Ext w1 w' := by
  obtain ⟨S0, S1, h1, h2, _⟩ := h.ex
  by_cases hk2 : k < 2
  · have e : finK x k = (x k).fin := if_pos hk2
    rw [e]
    match k, hk2 with
    | 0, _ => exact end_ok h.g h1
    | 1, _ => exact end_ok h.g h2
  · have e : finK x k = some (1, none) := if_neg hk2
    rw [e]
    exact (end_idle (h.idle k hk hk2) h.g).mono (by rintro e w' ⟨rfl, rfl⟩; exact ⟨_, rfl, ⟨by decide, by decide, rfl⟩, Upd.refl _ _⟩)
theorem Reads.took (h : Reads n A se w w1 r0 r1 a3 m0 m1 x y) (k : Nat) (hk : k < 4) (t : ThingD) (ht : t.Ok) :
    Calls Tryd.prog 31 #[rptr r0 r1 a3 k, .agg (thingCells t).toArray] w1 fun e w' => e = .returned (.agg (thingCells (resK x k t)).toArray) ∧ Reads n (plus A w1.heap.size w'.heap.size) se w w' r0 r1 a3 m0 m1 (stepK x k t) y ∧ Upd A w1 w' := by
  obtain ⟨S0, S1, h1, h2, h3, h4, h5⟩ := h.ex
  have hlt3 := lt_of_blk h.un
  have hltm0 := lt_of_blk h.f0.blk
  have hltm1 := lt_of_blk h.f1.blk
  have np : ∀ b m, b < w1.heap.size → ¬ A b → ¬ plus A w1.heap.size m b := fun b m hb hn hk => hk.elim hn (fun hk => by omega)
  by_cases hk2 : k < 2
  · have e1 : resK x k t = (tookD (x k) t).1 := if_pos hk2
    have e2 : stepK x k t = nextK x k t := if_pos hk2
    rw [e1, e2]
    have hok : ∀ j, FOk (nextK x k t j).f := fun j => by
      unfold nextK
      split
      · exact fok_took (h.okx k) t
      · exact h.okx j
    match k, hk2, hok with
    | 0, _, hok =>
      refine (took_ok h.g h1 t ht).mono ?_
      rintro e w' ⟨rfl, a, u⟩
      have hs := u.size
      have hr := h1.low r0 h1.mem
      have uA : Upd A w1 w' := u.mono (fun b _ hb => by have e : b = r0 := hb; subst e; exact h4 _ h1.mem)
      refine ⟨rfl, ⟨h.g.below (u.below h.g.size (fun k hk => by have e : k = r0 := hk; omega)), h.e.then u (fun b hb hk => by have e : b = r0 := hk; have := h.hn; omega), h.hn, fun k hk => hk.elim (fun hk => Nat.lt_of_lt_of_le (h.hA k hk) hs) (fun hk => hk.2), uA.blk h.un h.una, np _ _ hlt3 h.una, ⟨_, S1, a, h2.upd u (fun g hg e => by have e : g = r0 := e; subst e; exact h3 _ h1.mem hg), fun k hk hk1 => ?_, fun k hk => hk.imp (h4 k) id, fun k hk => .inl (h5 k hk)⟩, h.f0.upd uA h.nm0, h.f1.upd uA h.nm1, np _ _ hltm0 h.nm0, np _ _ hltm1 h.nm1, h.lm, hok⟩, uA⟩
      rcases hk with hk | hk
      · exact h3 k hk hk1
      · have := h.hA k (h5 k hk1); omega
    | 1, _, hok =>
      refine (took_ok h.g h2 t ht).mono ?_
      rintro e w' ⟨rfl, a, u⟩
      have hs := u.size
      have hr := h2.low r1 h2.mem
      have uA : Upd A w1 w' := u.mono (fun b _ hb => by have e : b = r1 := hb; subst e; exact h5 _ h2.mem)
      refine ⟨rfl, ⟨h.g.below (u.below h.g.size (fun k hk => by have e : k = r1 := hk; omega)), h.e.then u (fun b hb hk => by have e : b = r1 := hk; have := h.hn; omega), h.hn, fun k hk => hk.elim (fun hk => Nat.lt_of_lt_of_le (h.hA k hk) hs) (fun hk => hk.2), uA.blk h.un h.una, np _ _ hlt3 h.una, ⟨S0, _, h1.upd u (fun g hg e => by have e : g = r1 := e; subst e; exact h3 _ hg h2.mem), a, fun k hk hk1 => ?_, fun k hk => .inl (h4 k hk), fun k hk => hk.imp (h5 k) id⟩, h.f0.upd uA h.nm0, h.f1.upd uA h.nm1, np _ _ hltm0 h.nm0, np _ _ hltm1 h.nm1, h.lm, hok⟩, uA⟩
      rcases hk1 with hk1 | hk1
      · exact h3 k hk hk1
      · have := h.hA k (h4 k hk); omega
  · have e1 : resK x k t = idleT t := if_neg hk2
    have e2 : stepK x k t = x := if_neg hk2
    rw [e1, e2]
    refine (tookIdle h.g (h.idle k hk hk2) t ht).mono ?_
    rintro e w' ⟨rfl, _, u⟩
    have hs := u.size
    have hF := h.ext u
    obtain ⟨S0, S1, h1, h2, h3, h4, h5⟩ := hF.ex
    exact ⟨rfl, ⟨hF.g, hF.e, hF.hn, fun k hk => hk.elim (fun hk => Nat.lt_of_lt_of_le (h.hA k hk) hs) (fun hk => hk.2), hF.un, np _ _ hlt3 h.una, ⟨S0, S1, h1, h2, h3, fun k hk => .inl (h4 k hk), fun k hk => .inl (h5 k hk)⟩, hF.f0, hF.f1, np _ _ hltm0 h.nm0, np _ _ hltm1 h.nm1, h.lm, h.okx⟩, Upd.ext u _⟩
/-- .. the document's reader. -/
theorem Reads.meant (h : Reads n A se w w1 r0 r1 a3 m0 m1 x y) (k : Nat) (hk : k < 2) (t : ThingD) (ht : t.Ok) :
    Calls Tryd.prog 32 #[mptr m0 m1 k, .agg (thingCells t).toArray] w1 fun e w' => e = .returned (.agg (thingCells (tookD (y k) t).1).toArray) ∧ Reads n A se w w' r0 r1 a3 m0 m1 x (nextK y k t) ∧ Upd (fun b => b = m0 ∨ b = m1) w1 w' := by
  obtain ⟨S0, S1, h1, h2, h3, h4, h5⟩ := h.ex
  obtain ⟨l0, l1, l2, l3, l4⟩ := h.lm
  match k, hk with
  | 0, _ =>
    refine (meant_ok h.f0 t ht).mono ?_
    rintro e w' ⟨rfl, a, u⟩
    refine ⟨rfl, ⟨h.g.below (u.below h.g.size (fun k hk => by have e : k = m0 := hk; omega)), h.e.then u (fun b hb hk => by have e : b = m0 := hk; have := h.hn; omega), h.hn, fun k hk => Nat.lt_of_lt_of_le (h.hA k hk) u.size, u.blk h.un (fun e => l3 (Eq.symm e)), h.una,
      ⟨S0, S1, h1.upd u (fun g hg e => by have e : g = m0 := e; subst e; exact h.nm0 (h4 _ hg)), h2.upd u (fun g hg e => by have e : g = m0 := e; subst e; exact h.nm0 (h5 _ hg)), h3, h4, h5⟩, a, h.f1.upd u (fun e => l2 (Eq.symm e)), h.nm0, h.nm1, h.lm, h.okx⟩, u.mono (fun b _ hb => .inl hb)⟩
  | 1, _ =>
    refine (meant_ok h.f1 t ht).mono ?_
    rintro e w' ⟨rfl, a, u⟩
    refine ⟨rfl, ⟨h.g.below (u.below h.g.size (fun k hk => by have e : k = m1 := hk; omega)), h.e.then u (fun b hb hk => by have e : b = m1 := hk; have := h.hn; omega), h.hn, fun k hk => Nat.lt_of_lt_of_le (h.hA k hk) u.size, u.blk h.un (fun e => l4 (Eq.symm e)), h.una,
      ⟨S0, S1, h1.upd u (fun g hg e => by have e : g = m1 := e; subst e; exact h.nm1 (h4 _ hg)), h2.upd u (fun g hg e => by have e : g = m1 := e; subst e; exact h.nm1 (h5 _ hg)), h3, h4, h5⟩, h.f0.upd u (fun e => l2 e), a, h.nm0, h.nm1, h.lm, h.okx⟩, u.mono (fun b _ hb => .inr hb)⟩
theorem Reads.mleft (h : Reads n A se w w1 r0 r1 a3 m0 m1 x y) (k : Nat) (hk : k < 2) : Calls Tryd.prog 33 #[mptr m0 m1 k] w1 fun e w' => e = .returned (.int .i64 (y k).left) ∧ Ext w1 w' := by
  match k, hk with
  | 0, _ => exact left_r h.f0
  | 1, _ => exact left_r h.f1
theorem Reads.mend (h : Reads n A se w w1 r0 r1 a3 m0 m1 x y) (k : Nat) (hk : k < 2) : Calls Tryd.prog 34 #[mptr m0 m1 k] w1 fun e w' => e = .returned (faultV (y k).fin) ∧ Ext w1 w' := by
  match k, hk with
  | 0, _ => exact end_r h.f0
  | 1, _ => exact end_r h.f1
end
theorem stepK_ok {x : Nat → RdD} (h : ∀ k, FOk (x k).f) (k : Nat) (t : ThingD) : ∀ j, FOk (stepK x k t j).f := fun j => by
  unfold stepK
  split
  · unfold nextK
    split
    · exact fok_took (h k) t
    · exact h j
  · exact h j
theorem finK_ok {x : Nat → RdD} (h : ∀ k, FOk (x k).f) (k : Nat) : FOk (finK x k) := by
  unfold finK
  split
  · exact fok_fin (h k)
  · exact fok_nil
end Go.Proofs.YtkabomkikbdigaaDoor
