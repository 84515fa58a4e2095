/- codec.Reader: ready, fail, bad, next, take by contracts. codec.Reader: next, take, Left, End by contracts. -/
import Derived.Test.YtkdhjighomnooaaDoorBytes
namespace Go.Proofs.YtkdhjighomnooaaDoor
open Go.RowKit Go.Lib


structure RdD where
  s : ByteArray
  pos : Nat
  f : EV
/-- The reader at block b stands so; its blocks are in S, from B on. (Behind a fault the place is none of anybody's business.) -/
structure Reader (B : Nat) (se : Nat → Addr) (w : World) (S : Nat → Prop) (b : Nat) (x : RdD) : Prop where
  ex : ∃ (fv : Value) (a : Nat), w.heap[b]? = some (.cells #[.string x.s, .int .i64 (a : Int), fv, .bool true] 114 (0, 0)) ∧ a ≤ x.s.size ∧ (x.f = none → a = x.pos) ∧ ErrIs se w fv x.f ∧ ErrIn fv (fun p => S p ∧ p ≠ b)
  sz : x.s.size ≤ 9223372036854775807
  mem : S b
  low : ∀ k, S k → B ≤ k
  lt : ∀ k, S k → k < w.heap.size
theorem Reader.upd {B b : Nat} {se : Nat → Addr} {w w' : World} {S T : Nat → Prop} {x : RdD} (h : Reader B se w S b x) (k : Upd T w w') (hT : ∀ g, S g → ¬ T g) : Reader B se w' S b x where
  ex := by
    obtain ⟨fv, a, h1, h2, h3, h4, h5⟩ := h.ex
    exact ⟨fv, a, k.blk h1 (hT b h.mem), h2, h3, h4.upd k (fun p hp => hT p (h5 p hp).1), h5⟩
  sz := h.sz
  mem := h.mem
  low := h.low
  lt g hg := Nat.lt_of_lt_of_le (h.lt g hg) k.size
theorem Reader.ext {B b : Nat} {se : Nat → Addr} {w w' : World} {S : Nat → Prop} {x : RdD} (h : Reader B se w S b x) (k : Ext w w') : Reader B se w' S b x := h.upd k (fun _ _ => id)
theorem Reader.weaken {B b : Nat} {se : Nat → Addr} {w : World} {S S' : Nat → Prop} {x : RdD} (h : Reader B se w S b x) (h1 : ∀ k, S k → S' k) (h2 : ∀ k, S' k → B ≤ k ∧ k < w.heap.size) : Reader B se w S' b x where
  ex := by obtain ⟨fv, a, c, d, e, f, g⟩ := h.ex; exact ⟨fv, a, c, d, e, f, fun p hp => ⟨h1 p (g p hp).1, (g p hp).2⟩⟩
  sz := h.sz
  mem := h1 b h.mem
  low k hk := (h2 k hk).1
  lt k hk := (h2 k hk).2
theorem Reader.grow {B b : Nat} {se : Nat → Addr} {w : World} {S : Nat → Prop} {x y : RdD} (h : Reader B se w S b x) (hB : B ≤ w.heap.size) (n : Nat) (hn : w.heap.size ≤ n) {w' : World} (h' : Reader B se w' S b y) (hs : n = w'.heap.size) : Reader B se w' (plus S w.heap.size n) b y :=
  h'.weaken (fun k hk => .inl hk) (fun k hk => ⟨hk.elim (h.low k) (fun hk => by omega), hk.elim (fun hk => Nat.lt_of_lt_of_le (h.lt k hk) (by omega)) (fun hk => by omega)⟩)
/-- An interface value that an error is: none, or one that is there. -/
theorem err_form {se : Nat → Addr} {w : World} {v : Value} {x : EV} (h : ErrIs se w v x) : (v = .nilIface ∧ x = none) ∨ ((∃ t y, v = .iface t y) ∧ x ≠ none) := by
  match x, h with
  | none, h => exact .inl ⟨h, rfl⟩
  | some (k, none), h => exact .inr ⟨⟨_, _, h.2.2⟩, by simp⟩
  | some (k, some n), h => obtain ⟨_, _, b, e, _⟩ := h; exact .inr ⟨⟨_, _, e⟩, by simp⟩

theorem ready_ok {B b : Nat} {se : Nat → Addr} {w : World} {S : Nat → Prop} {x : RdD} (h : Reader B se w S b x) :
    Calls Tryd.prog 59 #[.pointer (some ⟨b, 0, none⟩)] w fun e w' => e = .returned (.bool (x.f.isNone)) ∧ w = w' := by
  obtain ⟨fv, a, hb, _, _, he, _⟩ := h.ex
  have c2 := cell_of_blk hb 2
  have c3 := cell_of_blk hb 3
  rcases err_form he with ⟨rfl, hx⟩ | ⟨⟨t, y, rfl⟩, hx⟩
  · rw [hx]
    clear h hb he hx
    go_enter Tryd.func59, Tryd.ntmps59
    go_wp2
    go_ret
    exact ⟨rfl, rfl⟩
  · rw [show x.f.isNone = false from by cases hf : x.f <;> simp_all]
    clear h hb he hx
    go_enter Tryd.func59, Tryd.ntmps59
    go_wp2
    go_ret
    exact ⟨rfl, rfl⟩

/-- The first fault stays. -/
def RdD.fail (x : RdD) (e : EV) : RdD := if x.f = none then { x with f := e } else x
theorem fail_ok {B b : Nat} {se : Nat → Addr} {w : World} {S : Nat → Prop} {x : RdD} (h : Reader B se w S b x) (v : Value) (e2 : EV) (hv : ErrIs se w v e2) (h2 : e2 ≠ none) (hS : ErrIn v (fun p => S p ∧ p ≠ b)) :
    Calls Tryd.prog 58 #[.pointer (some ⟨b, 0, none⟩), v] w fun e w' => e = .returned (.tuple #[]) ∧ Reader B se w' S b (x.fail e2) ∧ Upd (one b) w w' := by
  have C := ready_ok h
  obtain ⟨fv, a, hb, ha, hp, he, hi⟩ := h.ex
  have c2 := cell_of_blk hb 2
  have f2 := free_of_blk hb 2
  by_cases hf : x.f = none
  · rw [show x.f.isNone = true from by simp [hf]] at C
    have U := (Upd.refl (one b) w).setCell (p := ⟨b, 2, none⟩) (.inr rfl) v
    have fin : Reader B se (w.setCell ⟨b, 2, none⟩ v) S b (x.fail e2) := by
      unfold RdD.fail
      rw [if_pos hf]
      exact ⟨⟨v, a, by simpa using blk_set hb 2 v, ha, fun e => absurd e h2, hv.upd U (fun p hp => fun e => (hS p hp).2 e), hS⟩, h.sz, h.mem, h.low, fun k hk => by have := h.lt k hk; simpa [World.setCell] using this⟩
    have FIN := Lib.hid fin
    have HU := Lib.hid U
    rcases err_form hv with ⟨rfl, hx⟩ | ⟨⟨t, y, rfl⟩, hx⟩
    · exact absurd hx h2
    · clear h hb he hx hf hv hS U fin hi hp
      go_enter Tryd.func58, Tryd.ntmps58
      go_wp2_with (go_at_call 59; refine C.mono ?_; rintro e w' ⟨rfl, rfl⟩)
      go_end0
      exact ⟨rfl, FIN.out, HU.out⟩
  · rw [show x.f.isNone = false from by cases h : x.f <;> simp_all] at C
    have e1 : x.fail e2 = x := by unfold RdD.fail; rw [if_neg hf]
    rw [e1]
    have HH := Lib.hid h
    clear h hb he hf hv hS e1 hi hp
    go_enter Tryd.func58, Tryd.ntmps58
    go_wp2_with (go_at_call 59; refine C.mono ?_; rintro e w' ⟨rfl, rfl⟩)
    go_end0
    exact ⟨rfl, HH.out, Upd.refl _ _⟩

theorem bad_ok {B b : Nat} {se : Nat → Addr} {w : World} {S : Nat → Prop} {x : RdD} (G : Genv B se w) (h : Reader B se w S b x) (n : Int) :
    Calls Tryd.prog 63 #[.pointer (some ⟨b, 0, none⟩), .int .i64 n] w fun e w' => e = .returned (.tuple #[]) ∧ Reader B se w' (plus S w.heap.size w'.heap.size) b (x.fail (some (3, some n))) ∧ Upd (one b) w w' := by
  have X := (Upd.refl none' w).alloc (.cells #[sv se 3, .int .i64 n] 101)
  have hf := blk_alloc w (.cells #[sv se 3, .int .i64 n] 101)
  have hw := h.grow G.size (w.heap.size + 1) (by omega) (h.ext X) (by simp)
  have C := fail_ok hw (.iface 97 (.pointer (some ⟨w.heap.size, 0, none⟩))) (some (3, some n)) ⟨by omega, by omega, _, rfl, hf⟩ (by simp) (fun p hp => by
    simp at hp; subst hp; exact ⟨.inr ⟨Nat.le_refl _, by omega⟩, fun e => by have := h.lt b h.mem; omega⟩)
  have c3 := G.cell 3 (by decide) (by decide)
  simp only [gno] at c3
  have HH := Lib.hid h
  have HX := Lib.hid X
  have HG := Lib.hid G
  clear h X hf hw G
  go_enter Tryd.func63, Tryd.ntmps63
  go_wp2_with fail
  refine C.mono ?_
  rintro e w' ⟨rfl, h1, h2⟩
  go_wp2
  go_end0
  have hs : w.heap.size + 1 ≤ w'.heap.size := by have := h2.size; simpa using this
  exact ⟨rfl, h1.weaken (fun k hk => hk.imp id (fun hk => ⟨hk.1, by omega⟩)) (fun k hk => ⟨hk.elim (HH.out.low k) (fun hk => by have := HG.out.size; omega), hk.elim (fun hk => Nat.lt_of_lt_of_le (HH.out.lt k hk) (by omega)) (fun hk => hk.2)⟩), (Upd.ext HX.out _).trans (h2.mono (fun _ _ h => h))⟩

theorem ext_drewN (w : World) (n : Nat) : Ext w (w.drewN n) := (Upd.refl _ _).drewN n
/-- What is left of the text. -/
def RdD.rest (x : RdD) : List UInt8 := x.s.data.toList.drop x.pos
theorem extract_str (s : ByteArray) (a n : Nat) (_h : a + n ≤ s.size) : s.extract a (a + n) = str ((s.data.toList.drop a).take n) := by
  apply ByteArray.ext
  apply Array.ext'
  simp
set_option maxHeartbeats 1000000 in
theorem next_no {B b : Nat} {se : Nat → Addr} {w : World} {S : Nat → Prop} {x : RdD} (h : Reader B se w S b x) (n : Nat) (hn : x.f ≠ none ∨ x.s.size < x.pos + n) (hn2 : n ≤ 9223372036854775807) :
    Calls Tryd.prog 62 #[.pointer (some ⟨b, 0, none⟩), .int .i64 n] w fun e w' => e = .returned (.tuple #[.string ⟨#[]⟩, .bool false]) ∧ Ext w w' := by
  obtain ⟨fv, a, hb, ha, hp, he, hi⟩ := h.ex
  have c0 := cell_of_blk hb 0
  have c1 := cell_of_blk hb 1
  have C := fun k => (ready_ok (h.ext (ext_drewN w k))).mono (R' := fun e w' => e = .returned (.bool (x.f.isNone)) ∧ w' = w.drewN k) (fun _ _ ⟨p, q⟩ => ⟨p, q.symm⟩)
  have hsz := h.sz
  by_cases hf : x.f = none
  · have hap := hp hf
    subst hap
    rw [hf] at C
    have ht : x.s.size < x.pos + n := hn.resolve_left (by simp [hf])
    have h1 : decide ((x.s.size : Int) - (x.pos : Int) < (n : Int)) = true := by simp; omega
    have HC := Lib.hid C
    clear h hb he hf hn hp hi C
    go_enter Tryd.func62, Tryd.ntmps62
    go_wp2
    go_quiet ((go_at_call 59; exact Calls.quiet_of_same (HC.out _)))
    go_wp2
    go_ret2
    exact ⟨rfl, ext_drewN _ _⟩
  · rw [show x.f.isNone = false from by cases h : x.f <;> simp_all] at C
    have HC := Lib.hid C
    clear h hb he hf hn hp hi C
    go_enter Tryd.func62, Tryd.ntmps62
    go_wp2
    go_quiet ((go_at_call 59; exact Calls.quiet_of_same (HC.out _)))
    go_wp2
    go_ret2
    exact ⟨rfl, ext_drewN _ _⟩
set_option maxHeartbeats 1000000 in
theorem next_yes {B b : Nat} {se : Nat → Addr} {w : World} {S : Nat → Prop} {x : RdD} (h : Reader B se w S b x) (n : Nat) (hf : x.f = none) (hn : x.pos + n ≤ x.s.size) :
    Calls Tryd.prog 62 #[.pointer (some ⟨b, 0, none⟩), .int .i64 n] w fun e w' => e = .returned (.tuple #[.string (str (x.rest.take n)), .bool true]) ∧ Reader B se w' S b { x with pos := x.pos + n } ∧ Upd (one b) w w' := by
  obtain ⟨fv, a, hb, ha, hp, he, hi⟩ := h.ex
  have c0 := cell_of_blk hb 0
  have c1 := cell_of_blk hb 1
  have f1 := free_of_blk hb 1
  have C := fun k => (ready_ok (h.ext (ext_drewN w k))).mono (R' := fun e w' => e = .returned (.bool (x.f.isNone)) ∧ w' = w.drewN k) (fun _ _ ⟨p, q⟩ => ⟨p, q.symm⟩)
  have hsz := h.sz
  have hap := hp hf
  subst hap
  rw [hf] at C
  have h1 : decide ((x.s.size : Int) - (x.pos : Int) < (n : Int)) = false := by simp; omega
  have hx : x.s.extract x.pos (x.pos + n) = str (x.rest.take n) := extract_str x.s x.pos n hn
  have fin : ∀ k, Reader B se ((w.drewN k).setCell ⟨b, 1, none⟩ (.int .i64 ((x.pos : Int) + n))) S b { x with pos := x.pos + n } ∧ Upd (one b) w ((w.drewN k).setCell ⟨b, 1, none⟩ (.int .i64 ((x.pos : Int) + n))) := fun k => by
    have U := ((Upd.refl (one b) w).drewN k).setCell (p := ⟨b, 1, none⟩) (.inr rfl) (.int .i64 ((x.pos : Int) + n))
    exact ⟨⟨⟨fv, x.pos + n, by simpa using blk_set (w := w.drewN k) hb 1 (.int .i64 ((x.pos : Int) + n)), hn, fun _ => rfl, he.upd U (fun p hp => fun e => (hi p hp).2 e), hi⟩, h.sz, h.mem, h.low, fun g hg => by have := h.lt g hg; simpa [World.setCell] using this⟩, U⟩
  have HC := Lib.hid C
  have HX := Lib.hid hx
  have FIN := Lib.hid fin
  clear h hb he hf hp hi C hx fin
  go_enter Tryd.func62, Tryd.ntmps62
  go_wp2
  go_quiet ((go_at_call 59; exact Calls.quiet_of_same (HC.out _)))
  go_wp2
  go_quiet (fail)
  go_wp2
  go_ret2
  rw [← HX.out]
  exact ⟨rfl, (FIN.out _).1, (FIN.out _).2⟩

/-- The next n bytes of what begins at a place. -/
def RdD.take (x : RdD) (n : Nat) (src : Int) : List UInt8 × RdD :=
  if x.f = none ∧ x.pos + n ≤ x.s.size then (x.rest.take n, { x with pos := x.pos + n }) else ([], x.fail (some (3, some src)))
theorem take_ok {B b : Nat} {se : Nat → Addr} {w : World} {S : Nat → Prop} {x : RdD} (G : Genv B se w) (h : Reader B se w S b x) (n : Nat) (src : Int) (hn2 : n ≤ 9223372036854775807) :
    Calls Tryd.prog 60 #[.pointer (some ⟨b, 0, none⟩), .int .i64 n, .int .i64 src] w fun e w' => e = .returned (.string (str (x.take n src).1)) ∧ Reader B se w' (plus S w.heap.size w'.heap.size) b (x.take n src).2 ∧ Upd (one b) w w' := by
  have HG := Lib.hid G
  have HH := Lib.hid h
  by_cases hc : x.f = none ∧ x.pos + n ≤ x.s.size
  · have C := next_yes h n hc.1 hc.2
    have e1 : x.take n src = (x.rest.take n, { x with pos := x.pos + n }) := if_pos hc
    rw [e1]
    clear h hc e1 G
    go_enter Tryd.func60, Tryd.ntmps60
    go_wp2_with fail
    refine C.mono ?_
    rintro e w' ⟨rfl, h1, h2⟩
    go_wp2
    go_ret
    exact ⟨rfl, HH.out.grow HG.out.size _ h2.size h1 rfl, h2⟩
  · have C := next_no h n (by by_cases hf : x.f = none; · exact .inr (by have : ¬ x.pos + n ≤ x.s.size := fun h => hc ⟨hf, h⟩; omega)
                              exact .inl hf) hn2
    have e1 : x.take n src = ([], x.fail (some (3, some src))) := if_neg hc
    rw [e1]
    clear h hc e1 G
    go_enter Tryd.func60, Tryd.ntmps60
    go_wp2_with fail
    refine C.mono ?_
    rintro e w1 ⟨rfl, h1⟩
    have C2 := bad_ok (HG.out.ext h1) (HH.out.ext h1) src
    have H1 := Lib.hid h1
    clear h1
    go_wp2_with fail
    refine C2.mono ?_
    rintro e w' ⟨rfl, h2, h3⟩
    have hs := H1.out.size
    have hs2 := h3.size
    go_wp2
    go_ret
    exact ⟨rfl, h2.weaken (fun k hk => hk.imp id (fun hk => ⟨by omega, hk.2⟩)) (fun k hk => ⟨hk.elim (HH.out.low k) (fun hk => by have := HG.out.size; omega), hk.elim (fun hk => Nat.lt_of_lt_of_le (HH.out.lt k hk) (by omega)) (fun hk => hk.2)⟩), (Upd.ext H1.out _).trans (h3.mono (fun _ _ h => h))⟩

/-- How many bytes are left. -/
def RdD.left (x : RdD) : Int := if x.f = none then (x.s.size : Int) - x.pos else 0
theorem left_ok {B b : Nat} {se : Nat → Addr} {w : World} {S : Nat → Prop} {x : RdD} (h : Reader B se w S b x) :
    Calls Tryd.prog 64 #[.pointer (some ⟨b, 0, none⟩)] w fun e w' => e = .returned (.int .i64 x.left) ∧ Ext w w' := by
  obtain ⟨fv, a, hb, ha, hp, he, hi⟩ := h.ex
  have c0 := cell_of_blk hb 0
  have c1 := cell_of_blk hb 1
  have C := ready_ok h
  have hsz := h.sz
  by_cases hf : x.f = none
  · have hap := hp hf
    subst hap
    rw [hf] at C
    rw [show x.left = (x.s.size : Int) - x.pos from if_pos hf]
    clear h hb he hf hp hi
    go_enter Tryd.func64, Tryd.ntmps64
    go_wp2_with (go_at_call 59; refine C.mono ?_; rintro e w' ⟨rfl, rfl⟩)
    go_quiet (fail)
    go_wp2
    go_ret
    exact ⟨rfl, ext_drewN _ _⟩
  · rw [show x.f.isNone = false from by cases h : x.f <;> simp_all] at C
    rw [show x.left = 0 from if_neg hf]
    clear h hb he hf hp hi
    go_enter Tryd.func64, Tryd.ntmps64
    go_wp2_with (go_at_call 59; refine C.mono ?_; rintro e w' ⟨rfl, rfl⟩)
    go_ret
    exact ⟨rfl, Upd.refl _ _⟩
/-- What End answers. -/
def RdD.fin (x : RdD) : EV := if x.f = none ∧ x.pos < x.s.size then some (3, some x.pos) else x.f
set_option maxHeartbeats 1000000 in
theorem end_ok {B b : Nat} {se : Nat → Addr} {w : World} {S : Nat → Prop} {x : RdD} (G : Genv B se w) (h : Reader B se w S b x) :
    Calls Tryd.prog 46 #[.pointer (some ⟨b, 0, none⟩)] w fun e w' => ∃ v, e = .returned v ∧ ErrIs se w' v x.fin ∧ Ext w w' := by
  obtain ⟨fv, a, hb, ha, hp, he, hi⟩ := h.ex
  have c0 := cell_of_blk hb 0
  have c1 := cell_of_blk hb 1
  have c2 := cell_of_blk hb 2
  have c3 := cell_of_blk hb 3
  have g3 := G.cell 3 (by decide) (by decide)
  simp only [gno] at g3
  have hsz := h.sz
  rcases err_form he with ⟨rfl, hx⟩ | ⟨⟨t, y, rfl⟩, hx⟩
  · have hap := hp hx
    subst hap
    by_cases hlt : x.pos < x.s.size
    · rw [show x.fin = some (3, some (x.pos : Int)) from if_pos ⟨hx, hlt⟩]
      have hd : decide ((x.pos : Int) < (x.s.size : Int)) = true := by simp; omega
      clear h hb he hx hp hi G
      go_enter Tryd.func46, Tryd.ntmps46
      go_wp2
      go_quiet (fail)
      go_wp2
      go_region
      all_goals
        go_wp2
        go_ret
        exact ⟨_, rfl, ⟨by omega, by omega, _, rfl, blk_alloc (w.drewN _) _⟩, (ext_drewN _ _).alloc _⟩
    · rw [show x.fin = none from by unfold RdD.fin; rw [if_neg (by simp [hlt]), hx]]
      have hd : decide ((x.pos : Int) < (x.s.size : Int)) = false := by simp; omega
      clear h hb he hx hp hi G
      go_enter Tryd.func46, Tryd.ntmps46
      go_wp2
      go_quiet (fail)
      go_wp2
      go_ret
      exact ⟨_, rfl, rfl, ext_drewN _ _⟩
  · rw [show x.fin = x.f from by unfold RdD.fin; rw [if_neg (by simp [hx])]]
    have HE := Lib.hid he
    clear h hb he hx hp hi G
    go_enter Tryd.func46, Tryd.ntmps46
    go_wp2
    go_quiet (fail)
    go_wp2
    go_ret
    exact ⟨_, rfl, HE.out.ext (ext_drewN _ _), ext_drewN _ _⟩
end Go.Proofs.YtkdhjighomnooaaDoor
