/- codec.Reader: ready, fail, bad, next, take by contracts. -/
import Derived.Test.YtkabomkikbdigaaDoorBytes
namespace Go.Proofs.YtkabomkikbdigaaDoor
open Go.RowKit Go.Lib

structure RdD where
  s : ByteArray
  pos : Nat
  f : EV
/-- The reader at block b stands so; its blocks are in S, from B on. (Behind a fault the place is none of anybody's business.) -/
structure Reader (B : Nat) (se : Nat → Addr) (w : World) (S : Nat → Prop) (b : Nat) (x : RdD) : Prop where
  ex : ∃ (fv : Value) (a : Nat), w.heap[b]? = some (.cells #[.string x.s, .int .i64 (a : Int), fv, .bool true] 62 (0, 0)) ∧ a ≤ x.s.size ∧ (x.f = none → a = x.pos) ∧ ErrIs se w fv x.f ∧ ErrIn fv (fun p => S p ∧ p ≠ b)
  sz : x.s.size ≤ 9223372036854775807
  mem : S b
  low : ∀ k, S k → B ≤ k
  lt : ∀ k, S k → k < w.heap.size
theorem Reader.upd {B b : Nat} {se : Nat → Addr} {w w' : World} {S T : Nat → Prop} {x : RdD} (h : Reader B se w S b x) (k : Upd T w w') (hT : ∀ g, S g → ¬ T g) : Reader B se w' S b x where
  ex := by
    obtain ⟨fv, a, h1, h2, h3, h4, h5⟩ := h.ex
    exact ⟨fv, a, k.blk h1 (hT b h.mem), h2, h3, h4.upd k (fun p hp => hT p (h5 p hp).1), h5⟩
  sz := h.sz
  mem := h.mem
  low := h.low
  lt g hg := Nat.lt_of_lt_of_le (h.lt g hg) k.size
theorem Reader.ext {B b : Nat} {se : Nat → Addr} {w w' : World} {S : Nat → Prop} {x : RdD} (h : Reader B se w S b x) (k : Ext w w') : Reader B se w' S b x := h.upd k (fun _ _ => id)
theorem Reader.weaken {B b : Nat} {se : Nat → Addr} {w : World} {S S' : Nat → Prop} {x : RdD} (h : Reader B se w S b x) (h1 : ∀ k, S k → S' k) (h2 : ∀ k, S' k → B ≤ k ∧ k < w.heap.size) : Reader B se w S' b x where
  ex := by obtain ⟨fv, a, c, d, e, f, g⟩ := h.ex; exact ⟨fv, a, c, d, e, f, fun p hp => ⟨h1 p (g p hp).1, (g p hp).2⟩⟩
  sz := h.sz
  mem := h1 b h.mem
  low k hk := (h2 k hk).1
  lt k hk := (h2 k hk).2
theorem Reader.grow {B b : Nat} {se : Nat → Addr} {w : World} {S : Nat → Prop} {x y : RdD} (h : Reader B se w S b x) (hB : B ≤ w.heap.size) (n : Nat) (hn : w.heap.size ≤ n) {w' : World} (h' : Reader B se w' S b y) (hs : n = w'.heap.size) : Reader B se w' (plus S w.heap.size n) b y :=
  h'.weaken (fun k hk => .inl hk) (fun k hk => ⟨hk.elim (h.low k) (fun hk => by omega), hk.elim (fun hk => Nat.lt_of_lt_of_le (h.lt k hk) (by omega)) (fun hk => by omega)⟩)
/-- An interface value that an error is: none, or one that is there. -/
theorem err_form {se : Nat → Addr} {w : World} {v : Value} {x : EV} (h : ErrIs se w v x) : (v = .nilIface ∧ x = none) ∨ ((∃ t y, v = .iface t y) ∧ x ≠ none) := by
  match x, h with
  | none, h => exact .inl ⟨h, rfl⟩
  | some (k, none), h => exact .inr ⟨⟨_, _, h.2.2⟩, by simp⟩
  | some (k, some n), h => obtain ⟨_, _, b, e, _⟩ := h; exact .inr ⟨⟨_, _, e⟩, by simp⟩

theorem ready_ok {B b : Nat} {se : Nat → Addr} {w : World} {S : Nat → Prop} {x : RdD} (h : Reader B se w S b x) :
    Calls Tryd.prog 49 #[.pointer (some ⟨b, 0, none⟩)] w fun e w' => e = .returned (.bool (x.f.isNone)) ∧ w = w' := by
  obtain ⟨fv, a, hb, _, _, he, _⟩ := h.ex
  have c2 := cell_of_blk hb 2
  have c3 := cell_of_blk hb 3
  rcases err_form he with ⟨rfl, hx⟩ | ⟨⟨t, y, rfl⟩, hx⟩
  · rw [hx]
    clear h hb he hx
    go_enter Tryd.func49, Tryd.ntmps49
    go_wp2
    go_ret
    exact ⟨rfl, rfl⟩
  · rw [show x.f.isNone = false from by cases hf : x.f <;> simp_all]
    clear h hb he hx
    go_enter Tryd.func49, Tryd.ntmps49
    go_wp2
    go_ret
    exact ⟨rfl, rfl⟩

/-- The first fault stays. -/
def RdD.fail (x : RdD) (e : EV) : RdD := if x.f = none then { x with f := e } else x
theorem fail_ok {B b : Nat} {se : Nat → Addr} {w : World} {S : Nat → Prop} {x : RdD} (h : Reader B se w S b x) (v : Value) (e2 : EV) (hv : ErrIs se w v e2) (h2 : e2 ≠ none) (hS : ErrIn v (fun p => S p ∧ p ≠ b)) :
    Calls Tryd.prog 53 #[.pointer (some ⟨b, 0, none⟩), v] w fun e w' => e = .returned (.tuple #[]) ∧ Reader B se w' S b (x.fail e2) ∧ Upd (one b) w w' := by
  have C := ready_ok h
  obtain ⟨fv, a, hb, ha, hp, he, hi⟩ := h.ex
  have c2 := cell_of_blk hb 2
  have f2 := free_of_blk hb 2
  by_cases hf : x.f = none
  · rw [show x.f.isNone = true from by simp [hf]] at C
    have U := (Upd.refl (one b) w).setCell (p := ⟨b, 2, none⟩) (.inr rfl) v
    have fin : Reader B se (w.setCell ⟨b, 2, none⟩ v) S b (x.fail e2) := by
      unfold RdD.fail
      rw [if_pos hf]
      exact ⟨⟨v, a, by simpa using blk_set hb 2 v, ha, fun e => absurd e h2, hv.upd U (fun p hp => fun e => (hS p hp).2 e), hS⟩, h.sz, h.mem, h.low, fun k hk => by have := h.lt k hk; simpa [World.setCell] using this⟩
    have FIN := Lib.hid fin
    have HU := Lib.hid U
    rcases err_form hv with ⟨rfl, hx⟩ | ⟨⟨t, y, rfl⟩, hx⟩
    · exact absurd hx h2
    · clear h hb he hx hf hv hS U fin hi hp
      go_enter Tryd.func53, Tryd.ntmps53
      go_wp2_with (go_at_call 49; refine C.mono ?_; rintro e w' ⟨rfl, rfl⟩)
      go_end0
      exact ⟨rfl, FIN.out, HU.out⟩
  · rw [show x.f.isNone = false from by cases h : x.f <;> simp_all] at C
    have e1 : x.fail e2 = x := by unfold RdD.fail; rw [if_neg hf]
    rw [e1]
    have HH := Lib.hid h
    clear h hb he hf hv hS e1 hi hp
    go_enter Tryd.func53, Tryd.ntmps53
    go_wp2_with (go_at_call 49; refine C.mono ?_; rintro e w' ⟨rfl, rfl⟩)
    go_end0
    exact ⟨rfl, HH.out, Upd.refl _ _⟩

theorem bad_ok {B b : Nat} {se : Nat → Addr} {w : World} {S : Nat → Prop} {x : RdD} (G : Genv B se w) (h : Reader B se w S b x) (n : Int) :
    Calls Tryd.prog 52 #[.pointer (some ⟨b, 0, none⟩), .int .i64 n] w fun e w' => e = .returned (.tuple #[]) ∧ Reader B se w' (plus S w.heap.size w'.heap.size) b (x.fail (some (3, some n))) ∧ Upd (one b) w w' := by
  have X := (Upd.refl none' w).alloc (.cells #[sv se 3, .int .i64 n] 96)
  have hf := blk_alloc w (.cells #[sv se 3, .int .i64 n] 96)
  have hw := h.grow G.size (w.heap.size + 1) (by omega) (h.ext X) (by simp)
  have C := fail_ok hw (.iface 94 (.pointer (some ⟨w.heap.size, 0, none⟩))) (some (3, some n)) ⟨by omega, by omega, _, rfl, hf⟩ (by simp) (fun p hp => by
    simp at hp; subst hp; exact ⟨.inr ⟨Nat.le_refl _, by omega⟩, fun e => by have := h.lt b h.mem; omega⟩)
  have c3 := G.cell 3 (by decide) (by decide)
  simp only [gno] at c3
  have HH := Lib.hid h
  have HX := Lib.hid X
  have HG := Lib.hid G
  clear h X hf hw G
  go_enter Tryd.func52, Tryd.ntmps52
  go_wp2_with fail
  refine C.mono ?_
  rintro e w' ⟨rfl, h1, h2⟩
  go_wp2
  go_end0
  have hs : w.heap.size + 1 ≤ w'.heap.size := by have := h2.size; simpa using this
  exact ⟨rfl, h1.weaken (fun k hk => hk.imp id (fun hk => ⟨hk.1, by omega⟩)) (fun k hk => ⟨hk.elim (HH.out.low k) (fun hk => by have := HG.out.size; omega), hk.elim (fun hk => Nat.lt_of_lt_of_le (HH.out.lt k hk) (by omega)) (fun hk => hk.2)⟩), (Upd.ext HX.out _).trans (h2.mono (fun _ _ h => h))⟩
end Go.Proofs.YtkabomkikbdigaaDoor
