/- codec.Reader: ready, fail, bad, next, take by contracts. codec.Reader: next, take, Left, End by contracts. codec.Reader: number, Var by contracts. codec.Reader: Var, Text, Fixed, NewReader by contracts. codec.Reader: Text, Fixed, Hash by contracts. codec.Reader: Fixed, Hash by contracts. -/
import Derived.Test.YtljnhelnmnomoaaGreatDoorBytes
namespace Go.Proofs.YtljnhelnmnomoaaGreatDoor
open Go.RowKit Go.Lib


structure RdD where
  s : ByteArray
  pos : Nat
  f : EV
/-- The reader at block b stands so; its blocks are in S, from B on. (Behind a fault the place is none of anybody's business.) -/
structure Reader (B : Nat) (se : Nat → Addr) (w : World) (S : Nat → Prop) (b : Nat) (x : RdD) : Prop where
  ex : ∃ (fv : Value) (a : Nat), w.heap[b]? = some (.cells #[.string x.s, .int .i64 (a : Int), fv, .bool true] 145 (0, 0)) ∧ a ≤ x.s.size ∧ (x.f = none → a = x.pos) ∧ ErrIs se w fv x.f ∧ ErrIn fv (fun p => S p ∧ p ≠ b)
  sz : x.s.size ≤ 9223372036854775807
  mem : S b
  low : ∀ k, S k → B ≤ k
  lt : ∀ k, S k → k < w.heap.size
theorem Reader.upd {B b : Nat} {se : Nat → Addr} {w w' : World} {S T : Nat → Prop} {x : RdD} (h : Reader B se w S b x) (k : Upd T w w') (hT : ∀ g, S g → ¬ T g) : Reader B se w' S b x where
  ex := by
    obtain ⟨fv, a, h1, h2, h3, h4, h5⟩ := h.ex
    exact ⟨fv, a, k.blk h1 (hT b h.mem), h2, h3, h4.upd k (fun p hp => hT p (h5 p hp).1), h5⟩
  sz := h.sz
  mem := h.mem
  low := h.low
  lt g hg := Nat.lt_of_lt_of_le (h.lt g hg) k.size
theorem Reader.ext {B b : Nat} {se : Nat → Addr} {w w' : World} {S : Nat → Prop} {x : RdD} (h : Reader B se w S b x) (k : Ext w w') : Reader B se w' S b x := h.upd k (fun _ _ => id)
theorem Reader.weaken {B b : Nat} {se : Nat → Addr} {w : World} {S S' : Nat → Prop} {x : RdD} (h : Reader B se w S b x) (h1 : ∀ k, S k → S' k) (h2 : ∀ k, S' k → B ≤ k ∧ k < w.heap.size) : Reader B se w S' b x where
  ex := by obtain ⟨fv, a, c, d, e, f, g⟩ := h.ex; exact ⟨fv, a, c, d, e, f, fun p hp => ⟨h1 p (g p hp).1, (g p hp).2⟩⟩
  sz := h.sz
  mem := h1 b h.mem
  low k hk := (h2 k hk).1
  lt k hk := (h2 k hk).2
theorem Reader.grow {B b : Nat} {se : Nat → Addr} {w : World} {S : Nat → Prop} {x y : RdD} (h : Reader B se w S b x) (hB : B ≤ w.heap.size) (n : Nat) (hn : w.heap.size ≤ n) {w' : World} (h' : Reader B se w' S b y) (hs : n = w'.heap.size) : Reader B se w' (plus S w.heap.size n) b y :=
  h'.weaken (fun k hk => .inl hk) (fun k hk => ⟨hk.elim (h.low k) (fun hk => by omega), hk.elim (fun hk => Nat.lt_of_lt_of_le (h.lt k hk) (by omega)) (fun hk => by omega)⟩)
/-- An interface value that an error is: none, or one that is there. -/
theorem err_form {se : Nat → Addr} {w : World} {v : Value} {x : EV} (h : ErrIs se w v x) : (v = .nilIface ∧ x = none) ∨ ((∃ t y, v = .iface t y) ∧ x ≠ none) := by
  match x, h with
  | none, h => exact .inl ⟨h, rfl⟩
  | some (k, none), h => exact .inr ⟨⟨_, _, h.2.2⟩, by simp⟩
  | some (k, some n), h => obtain ⟨_, _, b, e, _⟩ := h; exact .inr ⟨⟨_, _, e⟩, by simp⟩

theorem ready_ok {B b : Nat} {se : Nat → Addr} {w : World} {S : Nat → Prop} {x : RdD} (h : Reader B se w S b x) :
    Calls Tryz.prog 123 #[.pointer (some ⟨b, 0, none⟩)] w fun e w' => e = .returned (.bool (x.f.isNone)) ∧ w = w' := by
  obtain ⟨fv, a, hb, _, _, he, _⟩ := h.ex
  have c2 := cell_of_blk hb 2
  have c3 := cell_of_blk hb 3
  rcases err_form he with ⟨rfl, hx⟩ | ⟨⟨t, y, rfl⟩, hx⟩
  · rw [hx]
    clear h hb he hx
    go_enter Tryz.func123, Tryz.ntmps123
    go_wp2
    go_ret
    exact ⟨rfl, rfl⟩
  · rw [show x.f.isNone = false from by cases hf : x.f <;> simp_all]
    clear h hb he hx
    go_enter Tryz.func123, Tryz.ntmps123
    go_wp2
    go_ret
    exact ⟨rfl, rfl⟩

/-- The first fault stays. -/
def RdD.fail (x : RdD) (e : EV) : RdD := if x.f = none then { x with f := e } else x
theorem fail_ok {B b : Nat} {se : Nat → Addr} {w : World} {S : Nat → Prop} {x : RdD} (h : Reader B se w S b x) (v : Value) (e2 : EV) (hv : ErrIs se w v e2) (h2 : e2 ≠ none) (hS : ErrIn v (fun p => S p ∧ p ≠ b)) :
    Calls Tryz.prog 122 #[.pointer (some ⟨b, 0, none⟩), v] w fun e w' => e = .returned (.tuple #[]) ∧ Reader B se w' S b (x.fail e2) ∧ Upd (one b) w w' := by
  have C := ready_ok h
  obtain ⟨fv, a, hb, ha, hp, he, hi⟩ := h.ex
  have c2 := cell_of_blk hb 2
  have f2 := free_of_blk hb 2
  by_cases hf : x.f = none
  · rw [show x.f.isNone = true from by simp [hf]] at C
    have U := (Upd.refl (one b) w).setCell (p := ⟨b, 2, none⟩) (.inr rfl) v
    have fin : Reader B se (w.setCell ⟨b, 2, none⟩ v) S b (x.fail e2) := by
      unfold RdD.fail
      rw [if_pos hf]
      exact ⟨⟨v, a, by simpa using blk_set hb 2 v, ha, fun e => absurd e h2, hv.upd U (fun p hp => fun e => (hS p hp).2 e), hS⟩, h.sz, h.mem, h.low, fun k hk => by have := h.lt k hk; simpa [World.setCell] using this⟩
    have FIN := Lib.hid fin
    have HU := Lib.hid U
    rcases err_form hv with ⟨rfl, hx⟩ | ⟨⟨t, y, rfl⟩, hx⟩
    · exact absurd hx h2
    · clear h hb he hx hf hv hS U fin hi hp
      go_enter Tryz.func122, Tryz.ntmps122
      go_wp2_with (go_at_call 123; refine C.mono ?_; rintro e w' ⟨rfl, rfl⟩)
      go_end0
      exact ⟨rfl, FIN.out, HU.out⟩
  · rw [show x.f.isNone = false from by cases h : x.f <;> simp_all] at C
    have e1 : x.fail e2 = x := by unfold RdD.fail; rw [if_neg hf]
    rw [e1]
    have HH := Lib.hid h
    clear h hb he hf hv hS e1 hi hp
    go_enter Tryz.func122, Tryz.ntmps122
    go_wp2_with (go_at_call 123; refine C.mono ?_; rintro e w' ⟨rfl, rfl⟩)
    go_end0
    exact ⟨rfl, HH.out, Upd.refl _ _⟩

theorem bad_ok {B b : Nat} {se : Nat → Addr} {w : World} {S : Nat → Prop} {x : RdD} (G : Genv B se w) (h : Reader B se w S b x) (n : Int) :
    Calls Tryz.prog 127 #[.pointer (some ⟨b, 0, none⟩), .int .i64 n] w fun e w' => e = .returned (.tuple #[]) ∧ Reader B se w' (plus S w.heap.size w'.heap.size) b (x.fail (some (3, some n))) ∧ Upd (one b) w w' := by
  have X := (Upd.refl none' w).alloc (.cells #[sv se 3, .int .i64 n] 143)
  have hf := blk_alloc w (.cells #[sv se 3, .int .i64 n] 143)
  have hw := h.grow G.size (w.heap.size + 1) (by omega) (h.ext X) (by simp)
  have C := fail_ok hw (.iface 141 (.pointer (some ⟨w.heap.size, 0, none⟩))) (some (3, some n)) ⟨by omega, by omega, _, rfl, hf⟩ (by simp) (fun p hp => by
    simp at hp; subst hp; exact ⟨.inr ⟨Nat.le_refl _, by omega⟩, fun e => by have := h.lt b h.mem; omega⟩)
  have c3 := G.cell 3 (by decide) (by decide)
  simp only [gno] at c3
  have HH := Lib.hid h
  have HX := Lib.hid X
  have HG := Lib.hid G
  clear h X hf hw G
  go_enter Tryz.func127, Tryz.ntmps127
  go_wp2_with fail
  refine C.mono ?_
  rintro e w' ⟨rfl, h1, h2⟩
  go_wp2
  go_end0
  have hs : w.heap.size + 1 ≤ w'.heap.size := by have := h2.size; simpa using this
  exact ⟨rfl, h1.weaken (fun k hk => hk.imp id (fun hk => ⟨hk.1, by omega⟩)) (fun k hk => ⟨hk.elim (HH.out.low k) (fun hk => by have := HG.out.size; omega), hk.elim (fun hk => Nat.lt_of_lt_of_le (HH.out.lt k hk) (by omega)) (fun hk => hk.2)⟩), (Upd.ext HX.out _).trans (h2.mono (fun _ _ h => h))⟩

theorem ext_drewN (w : World) (n : Nat) : Ext w (w.drewN n) := (Upd.refl _ _).drewN n
/-- What is left of the text. -/
def RdD.rest (x : RdD) : List UInt8 := x.s.data.toList.drop x.pos
theorem extract_str (s : ByteArray) (a n : Nat) (_h : a + n ≤ s.size) : s.extract a (a + n) = str ((s.data.toList.drop a).take n) := by
  apply ByteArray.ext
  apply Array.ext'
  simp
set_option maxHeartbeats 1000000 in
theorem next_no {B b : Nat} {se : Nat → Addr} {w : World} {S : Nat → Prop} {x : RdD} (h : Reader B se w S b x) (n : Nat) (hn : x.f ≠ none ∨ x.s.size < x.pos + n) (hn2 : n ≤ 9223372036854775807) :
    Calls Tryz.prog 126 #[.pointer (some ⟨b, 0, none⟩), .int .i64 n] w fun e w' => e = .returned (.tuple #[.string ⟨#[]⟩, .bool false]) ∧ Ext w w' := by
  obtain ⟨fv, a, hb, ha, hp, he, hi⟩ := h.ex
  have c0 := cell_of_blk hb 0
  have c1 := cell_of_blk hb 1
  have C := fun k => (ready_ok (h.ext (ext_drewN w k))).mono (R' := fun e w' => e = .returned (.bool (x.f.isNone)) ∧ w' = w.drewN k) (fun _ _ ⟨p, q⟩ => ⟨p, q.symm⟩)
  have hsz := h.sz
  by_cases hf : x.f = none
  · have hap := hp hf
    subst hap
    rw [hf] at C
    have ht : x.s.size < x.pos + n := hn.resolve_left (by simp [hf])
    have h1 : decide ((x.s.size : Int) - (x.pos : Int) < (n : Int)) = true := by simp; omega
    have HC := Lib.hid C
    clear h hb he hf hn hp hi C
    go_enter Tryz.func126, Tryz.ntmps126
    go_wp2
    go_quiet ((go_at_call 123; exact Calls.quiet_of_same (HC.out _)))
    go_wp2
    go_ret2
    exact ⟨rfl, ext_drewN _ _⟩
  · rw [show x.f.isNone = false from by cases h : x.f <;> simp_all] at C
    have HC := Lib.hid C
    clear h hb he hf hn hp hi C
    go_enter Tryz.func126, Tryz.ntmps126
    go_wp2
    go_quiet ((go_at_call 123; exact Calls.quiet_of_same (HC.out _)))
    go_wp2
    go_ret2
    exact ⟨rfl, ext_drewN _ _⟩
set_option maxHeartbeats 1000000 in
theorem next_yes {B b : Nat} {se : Nat → Addr} {w : World} {S : Nat → Prop} {x : RdD} (h : Reader B se w S b x) (n : Nat) (hf : x.f = none) (hn : x.pos + n ≤ x.s.size) :
    Calls Tryz.prog 126 #[.pointer (some ⟨b, 0, none⟩), .int .i64 n] w fun e w' => e = .returned (.tuple #[.string (str (x.rest.take n)), .bool true]) ∧ Reader B se w' S b { x with pos := x.pos + n } ∧ Upd (one b) w w' := by
  obtain ⟨fv, a, hb, ha, hp, he, hi⟩ := h.ex
  have c0 := cell_of_blk hb 0
  have c1 := cell_of_blk hb 1
  have f1 := free_of_blk hb 1
  have C := fun k => (ready_ok (h.ext (ext_drewN w k))).mono (R' := fun e w' => e = .returned (.bool (x.f.isNone)) ∧ w' = w.drewN k) (fun _ _ ⟨p, q⟩ => ⟨p, q.symm⟩)
  have hsz := h.sz
  have hap := hp hf
  subst hap
  rw [hf] at C
  have h1 : decide ((x.s.size : Int) - (x.pos : Int) < (n : Int)) = false := by simp; omega
  have hx : x.s.extract x.pos (x.pos + n) = str (x.rest.take n) := extract_str x.s x.pos n hn
  have fin : ∀ k, Reader B se ((w.drewN k).setCell ⟨b, 1, none⟩ (.int .i64 ((x.pos : Int) + n))) S b { x with pos := x.pos + n } ∧ Upd (one b) w ((w.drewN k).setCell ⟨b, 1, none⟩ (.int .i64 ((x.pos : Int) + n))) := fun k => by
    have U := ((Upd.refl (one b) w).drewN k).setCell (p := ⟨b, 1, none⟩) (.inr rfl) (.int .i64 ((x.pos : Int) + n))
    exact ⟨⟨⟨fv, x.pos + n, by simpa using blk_set (w := w.drewN k) hb 1 (.int .i64 ((x.pos : Int) + n)), hn, fun _ => rfl, he.upd U (fun p hp => fun e => (hi p hp).2 e), hi⟩, h.sz, h.mem, h.low, fun g hg => by have := h.lt g hg; simpa [World.setCell] using this⟩, U⟩
  have HC := Lib.hid C
  have HX := Lib.hid hx
  have FIN := Lib.hid fin
  clear h hb he hf hp hi C hx fin
  go_enter Tryz.func126, Tryz.ntmps126
  go_wp2
  go_quiet ((go_at_call 123; exact Calls.quiet_of_same (HC.out _)))
  go_wp2
  go_quiet (fail)
  go_wp2
  go_ret2
  rw [← HX.out]
  exact ⟨rfl, (FIN.out _).1, (FIN.out _).2⟩

/-- The next n bytes of what begins at a place. -/
def RdD.take (x : RdD) (n : Nat) (src : Int) : List UInt8 × RdD :=
  if x.f = none ∧ x.pos + n ≤ x.s.size then (x.rest.take n, { x with pos := x.pos + n }) else ([], x.fail (some (3, some src)))
theorem take_ok {B b : Nat} {se : Nat → Addr} {w : World} {S : Nat → Prop} {x : RdD} (G : Genv B se w) (h : Reader B se w S b x) (n : Nat) (src : Int) (hn2 : n ≤ 9223372036854775807) :
    Calls Tryz.prog 124 #[.pointer (some ⟨b, 0, none⟩), .int .i64 n, .int .i64 src] w fun e w' => e = .returned (.string (str (x.take n src).1)) ∧ Reader B se w' (plus S w.heap.size w'.heap.size) b (x.take n src).2 ∧ Upd (one b) w w' := by
  have HG := Lib.hid G
  have HH := Lib.hid h
  by_cases hc : x.f = none ∧ x.pos + n ≤ x.s.size
  · have C := next_yes h n hc.1 hc.2
    have e1 : x.take n src = (x.rest.take n, { x with pos := x.pos + n }) := if_pos hc
    rw [e1]
    clear h hc e1 G
    go_enter Tryz.func124, Tryz.ntmps124
    go_wp2_with fail
    refine C.mono ?_
    rintro e w' ⟨rfl, h1, h2⟩
    go_wp2
    go_ret
    exact ⟨rfl, HH.out.grow HG.out.size _ h2.size h1 rfl, h2⟩
  · have C := next_no h n (by by_cases hf : x.f = none; · exact .inr (by have : ¬ x.pos + n ≤ x.s.size := fun h => hc ⟨hf, h⟩; omega)
                              exact .inl hf) hn2
    have e1 : x.take n src = ([], x.fail (some (3, some src))) := if_neg hc
    rw [e1]
    clear h hc e1 G
    go_enter Tryz.func124, Tryz.ntmps124
    go_wp2_with fail
    refine C.mono ?_
    rintro e w1 ⟨rfl, h1⟩
    have C2 := bad_ok (HG.out.ext h1) (HH.out.ext h1) src
    have H1 := Lib.hid h1
    clear h1
    go_wp2_with fail
    refine C2.mono ?_
    rintro e w' ⟨rfl, h2, h3⟩
    have hs := H1.out.size
    have hs2 := h3.size
    go_wp2
    go_ret
    exact ⟨rfl, h2.weaken (fun k hk => hk.imp id (fun hk => ⟨by omega, hk.2⟩)) (fun k hk => ⟨hk.elim (HH.out.low k) (fun hk => by have := HG.out.size; omega), hk.elim (fun hk => Nat.lt_of_lt_of_le (HH.out.lt k hk) (by omega)) (fun hk => hk.2)⟩), (Upd.ext H1.out _).trans (h3.mono (fun _ _ h => h))⟩

/-- How many bytes are left. -/
def RdD.left (x : RdD) : Int := if x.f = none then (x.s.size : Int) - x.pos else 0
theorem left_ok {B b : Nat} {se : Nat → Addr} {w : World} {S : Nat → Prop} {x : RdD} (h : Reader B se w S b x) :
    Calls Tryz.prog 158 #[.pointer (some ⟨b, 0, none⟩)] w fun e w' => e = .returned (.int .i64 x.left) ∧ Ext w w' := by
  obtain ⟨fv, a, hb, ha, hp, he, hi⟩ := h.ex
  have c0 := cell_of_blk hb 0
  have c1 := cell_of_blk hb 1
  have C := ready_ok h
  have hsz := h.sz
  by_cases hf : x.f = none
  · have hap := hp hf
    subst hap
    rw [hf] at C
    rw [show x.left = (x.s.size : Int) - x.pos from if_pos hf]
    clear h hb he hf hp hi
    go_enter Tryz.func158, Tryz.ntmps158
    go_wp2_with (go_at_call 123; refine C.mono ?_; rintro e w' ⟨rfl, rfl⟩)
    go_quiet (fail)
    go_wp2
    go_ret
    exact ⟨rfl, ext_drewN _ _⟩
  · rw [show x.f.isNone = false from by cases h : x.f <;> simp_all] at C
    rw [show x.left = 0 from if_neg hf]
    clear h hb he hf hp hi
    go_enter Tryz.func158, Tryz.ntmps158
    go_wp2_with (go_at_call 123; refine C.mono ?_; rintro e w' ⟨rfl, rfl⟩)
    go_ret
    exact ⟨rfl, Upd.refl _ _⟩
/-- What End answers. -/
def RdD.fin (x : RdD) : EV := if x.f = none ∧ x.pos < x.s.size then some (3, some x.pos) else x.f
set_option maxHeartbeats 1000000 in
theorem end_ok {B b : Nat} {se : Nat → Addr} {w : World} {S : Nat → Prop} {x : RdD} (G : Genv B se w) (h : Reader B se w S b x) :
    Calls Tryz.prog 54 #[.pointer (some ⟨b, 0, none⟩)] w fun e w' => ∃ v, e = .returned v ∧ ErrIs se w' v x.fin ∧ Ext w w' := by
  obtain ⟨fv, a, hb, ha, hp, he, hi⟩ := h.ex
  have c0 := cell_of_blk hb 0
  have c1 := cell_of_blk hb 1
  have c2 := cell_of_blk hb 2
  have c3 := cell_of_blk hb 3
  have g3 := G.cell 3 (by decide) (by decide)
  simp only [gno] at g3
  have hsz := h.sz
  rcases err_form he with ⟨rfl, hx⟩ | ⟨⟨t, y, rfl⟩, hx⟩
  · have hap := hp hx
    subst hap
    by_cases hlt : x.pos < x.s.size
    · rw [show x.fin = some (3, some (x.pos : Int)) from if_pos ⟨hx, hlt⟩]
      have hd : decide ((x.pos : Int) < (x.s.size : Int)) = true := by simp; omega
      clear h hb he hx hp hi G
      go_enter Tryz.func54, Tryz.ntmps54
      go_wp2
      go_quiet (fail)
      go_wp2
      go_region
      all_goals
        go_wp2
        go_ret
        exact ⟨_, rfl, ⟨by omega, by omega, _, rfl, blk_alloc (w.drewN _) _⟩, (ext_drewN _ _).alloc _⟩
    · rw [show x.fin = none from by unfold RdD.fin; rw [if_neg (by simp [hlt]), hx]]
      have hd : decide ((x.pos : Int) < (x.s.size : Int)) = false := by simp; omega
      clear h hb he hx hp hi G
      go_enter Tryz.func54, Tryz.ntmps54
      go_wp2
      go_quiet (fail)
      go_wp2
      go_ret
      exact ⟨_, rfl, rfl, ext_drewN _ _⟩
  · rw [show x.fin = x.f from by unfold RdD.fin; rw [if_neg (by simp [hx])]]
    have HE := Lib.hid he
    clear h hb he hx hp hi G
    go_enter Tryz.func54, Tryz.ntmps54
    go_wp2
    go_quiet (fail)
    go_wp2
    go_ret
    exact ⟨_, rfl, HE.out.ext (ext_drewN _ _), ext_drewN _ _⟩

/-- The number whose form these bytes begin with, and how many they are; f: so many bytes at most; first: is this the first? -/
def numGo : Nat → Bool → List UInt8 → Option (Nat × Nat)
  | 0, _, _ => none
  | _ + 1, _, [] => none
  | f + 1, first, c :: l => if (f = 0 ∧ 1 < c.toNat) ∨ (first = false ∧ c.toNat = 0) then none else if c.toNat < 128 then some (c.toNat, 1) else (numGo f false l).map fun p => (c.toNat % 128 + 128 * p.1, p.2 + 1)
def numB (l : List UInt8) : Option (Nat × Nat) := numGo 10 true l
theorem bits_and127 (x : Nat) (h : x < 256) : bits .and .u8 x 127 = ((x % 128 : Nat) : Int) := by
  have : ∀ y : Fin 256, bits .and .u8 (y.val : Int) 127 = ((y.val % 128 : Nat) : Int) := by decide +kernel
  exact this ⟨x, h⟩
theorem bits_or64 (a c k : Nat) (ha : a < 2 ^ k) (hs : 2 ^ k * c + a < 18446744073709551616) : bits .or .u64 (a : Int) ((2 ^ k * c : Nat) : Int) = ((2 ^ k * c + a : Nat) : Int) := by
  have h1 : a < 18446744073709551616 := by omega
  have h2 : 2 ^ k * c < 18446744073709551616 := by omega
  have e := Nat.two_pow_add_eq_or_of_lt ha c
  have b1 : (BitVec.ofInt IntKind.u64.bits (a : Int)).toNat = a := by
    rw [BitVec.toNat_ofInt]; simp only [IntKind.bits]; omega
  have b2 : (BitVec.ofInt IntKind.u64.bits ((2 ^ k * c : Nat) : Int)).toNat = 2 ^ k * c := by
    rw [BitVec.toNat_ofInt]; simp only [IntKind.bits]; omega
  unfold bits
  simp only [BitVec.toNat_or, b1, b2]
  rw [Nat.or_comm, ← e]
  exact IntWalk.u64_in _ (by omega)
@[simp] theorem bytes_getElem (l : List UInt8) (i : Nat) (h : i < (ByteArray.mk l.toArray).size) : (ByteArray.mk l.toArray)[i] = l[i]'(by simpa [ByteArray.size] using h) := rfl
/-- What number answers. -/
def numEnd : Option (Nat × Nat) → Ending
  | some (n, _) => .returned (.tuple #[.int .u64 n, .bool true])
  | none => .returned (.tuple #[.int .u64 0, .bool false])
def NumPost (B : Nat) (se : Nat → Addr) (S : Nat → Prop) (b : Nat) (x : RdD) (w : World) (e : Ending) (w' : World) : Prop := ∃ y : RdD, y.f = none ∧ y.s = x.s ∧ y.pos ≤ x.s.size ∧
  e = numEnd (numB x.rest) ∧ (∀ n k, numB x.rest = some (n, k) → y.pos = x.pos + k) ∧ Reader B se w' S b y ∧ Upd (one b) w w'
/-- What the loop of number keeps. -/
def NumRel (B : Nat) (se : Nat → Addr) (S : Nat → Prop) (b : Nat) (x : RdD) (w : World) (nv iv : Value) (wr : World) : Prop := ∃ (i acc : Nat) (y : RdD), iv = .int .i64 i ∧ nv = .int .u64 acc ∧ i ≤ 9 ∧ acc < 2 ^ (7 * i) ∧ y.f = none ∧ y.s = x.s ∧ y.pos = x.pos + i ∧ y.pos ≤ x.s.size ∧
    numB x.rest = (numGo (10 - i) (i == 0) y.rest).map (fun p => (acc + 2 ^ (7 * i) * p.1, i + p.2)) ∧ Reader B se wr S b y ∧ Upd (one b) w wr
theorem rest_next (x : RdD) (c : UInt8) (l : List UInt8) (h : x.rest = c :: l) : ({ x with pos := x.pos + 1 } : RdD).rest = l := by
  unfold RdD.rest at *
  rw [← List.drop_drop, h]; rfl

set_option maxRecDepth 8000 in
set_option maxHeartbeats 2000000 in
theorem number_ok {B b : Nat} {se : Nat → Addr} {w : World} {S : Nat → Prop} {x : RdD} (h : Reader B se w S b x) (hf : x.f = none) (hp : x.pos ≤ x.s.size) :
    Calls Tryz.prog 125 #[.func (.func 126) #[.pointer (some ⟨b, 0, none⟩)] #[]] w (NumPost B se S b x w) := by
  have start : NumRel B se S b x w (.int .u64 0) (.int .i64 0) w := ⟨0, 0, x, rfl, rfl, by omega, by simp, hf, rfl, rfl, hp, by simp [numB], h, Upd.refl _ _⟩
  have ST := Lib.hid start
  clear h hf hp start
  go_enter Tryz.func125, Tryz.ntmps125
  go_wp2_with fail
  go_loopw [4, 5] (fun nv iv wr => NumRel B se S b x w nv iv wr) (fun _ iv _ => 10 - (intOf iv).toNat)
  case atStart => exact ST.out
  case round =>
    obtain ⟨i, acc, y, rfl, rfl, hi, hacc, hyf, hys, hyp, hyz, hnum, hR, hU⟩ := hrel
    have HU := Lib.hid hU
    by_cases hlt : y.pos + 1 ≤ y.s.size
    · have C := next_yes hR 1 hyf hlt
      obtain ⟨c, l, hcl⟩ : ∃ c l, y.rest = c :: l := by
        cases hr : y.rest with
        | nil => have := congrArg List.length hr; simp [RdD.rest] at this; have e : y.s.data.size = y.s.size := rfl; omega
        | cons c l => exact ⟨c, l, rfl⟩
      rw [hcl] at C hnum
      have hcb : c.toNat < 256 := c.toNat_lt
      have hrn := rest_next y c l hcl
      obtain ⟨f, hf10⟩ : ∃ f, 10 - i = f + 1 := ⟨9 - i, by omega⟩
      rw [hf10] at hnum
      have hlen : (i = 9 ↔ f = 0) := by omega
      have hp7 : i < 9 → 2 ^ (7 * i) ≤ 2 ^ 56 := fun h => Nat.pow_le_pow_right (by omega) (by omega)
      by_cases hbad : (f = 0 ∧ 1 < c.toNat) ∨ ((i == 0) = false ∧ c.toNat = 0)
      · have hnone : numB x.rest = none := by rw [hnum]; unfold numGo; rw [if_pos hbad]; rfl
        have fin : ∀ w', Reader B se w' S b { y with pos := y.pos + 1 } → Upd (one b) wr w' → NumPost B se S b x w (.returned (.tuple #[.int .u64 0, .bool false])) w' := fun w' h1 h2 =>
          ⟨({ y with pos := y.pos + 1 } : RdD), hyf, hys, (by rw [← hys]; exact hlt), (by rw [hnone]; rfl), (fun n k e => by (rw [hnone] at e; cases e)), h1, HU.out.trans h2⟩
        have FIN := Lib.hid fin
        have hb2 : ((((i : Int) == 9) = true ∧ 1 < (c.toNat : Int)) ∨ (((i : Int) == 9) = true ∧ decide (1 < (c.toNat : Int)) = false ∧ ((c.toNat : Int) == 0) = true ∧ 0 < i)) ∨ (((i : Int) == 9) = false ∧ 0 < i ∧ ((c.toNat : Int) == 0) = true) := by
          rcases hbad with ⟨h1, h2⟩ | ⟨h1, h2⟩
          · exact .inl (.inl ⟨by simp; omega, by omega⟩)
          · have h3 : i ≠ 0 := by simpa using h1
            by_cases h9 : i = 9
            · exact .inl (.inr ⟨by simp; omega, by simp; omega, by simp; omega, by omega⟩)
            · exact .inr ⟨by simp; omega, by omega, by simp; omega⟩
        clear hU hnum hyf hys hyp hyz hR hcl hrn hf10 hlen hp7 hbad hnone fin hacc hlt
        rcases hb2 with (⟨t1, t2⟩ | ⟨t1, t2, t3, t4⟩) | ⟨t1, t2, t3⟩
        all_goals
          go_wp2_with fail
          refine C.mono ?_
          rintro e w' ⟨rfl, h1, h2⟩
          have F := Lib.hid (FIN.out w' h1 h2)
          clear h1 h2
          go_wp2_with fail
          go_ret2
          exact F.out
      · have hgood : numGo (f + 1) (i == 0) (c :: l) = if c.toNat < 128 then some (c.toNat, 1) else (numGo f false l).map fun p => (c.toNat % 128 + 128 * p.1, p.2 + 1) := by
          conv => lhs; unfold numGo
          rw [if_neg hbad]
        rw [hgood] at hnum
        have hc9 : i = 9 → c.toNat ≤ 1 := fun h => by
          rcases Nat.lt_or_ge 1 c.toNat with h1 | h1
          · exact absurd (.inl ⟨by omega, h1⟩) hbad
          · exact h1
        have hc0 : 0 < i → c.toNat ≠ 0 := fun h e => hbad (.inr ⟨by simp; omega, e⟩)
        have hadd : 2 ^ (7 * i) * (c.toNat % 128) + acc < 18446744073709551616 := by
          by_cases h9 : i = 9
          · have := hc9 h9
            have h63 : (2 : Nat) ^ (7 * i) = 9223372036854775808 := by rw [h9]
            rw [h63] at hacc ⊢
            have : c.toNat % 128 ≤ 1 := Nat.le_trans (Nat.mod_le _ _) this
            have := Nat.mul_le_mul_left 9223372036854775808 this
            omega
          · have h56 := hp7 (by omega)
            have : c.toNat % 128 ≤ 127 := by omega
            have := Nat.mul_le_mul h56 this
            have e : (2 : Nat) ^ 56 = 72057594037927936 := by rfl
            rw [e] at this h56
            omega
        have hor := bits_or64 acc (c.toNat % 128) (7 * i) hacc hadd
        have hand := bits_and127 c.toNat hcb
        have hshl : IntKind.u64.wrap (((c.toNat % 128 : Nat) : Int) * 2 ^ (7 * i)) = ((2 ^ (7 * i) * (c.toNat % 128) : Nat) : Int) := by
          rw [show ((c.toNat % 128 : Nat) : Int) * 2 ^ (7 * i) = ((2 ^ (7 * i) * (c.toNat % 128) : Nat) : Int) from by rw [Int.natCast_mul, Int.natCast_pow, Int.mul_comm]; rfl]
          exact IntWalk.u64_in _ (by omega)
        have tst : (((i : Int) == 9) = true ∧ decide (1 < (c.toNat : Int)) = false ∧ ((c.toNat : Int) == 0) = false ∧ 0 < i) ∨ (((i : Int) == 9) = false ∧ 0 < i ∧ ((c.toNat : Int) == 0) = false) ∨ (((i : Int) == 9) = false ∧ ¬ 0 < i) := by
          by_cases h9 : i = 9
          · have := hc9 h9
            have := hc0 (by omega)
            exact .inl ⟨by simp; omega, by simp; omega, by simp; omega, by omega⟩
          · by_cases h0 : 0 < i
            · have := hc0 h0
              exact .inr (.inl ⟨by simp; omega, h0, by simp; omega⟩)
            · exact .inr (.inr ⟨by simp; omega, h0⟩)
        have nv : bits .or .u64 (acc : Int) (IntKind.u64.wrap (IntKind.u64.wrap (bits .and .u8 (c.toNat : Int) 127) * 2 ^ (7 * i))) = ((2 ^ (7 * i) * (c.toNat % 128) + acc : Nat) : Int) := by
          rw [hand, show IntKind.u64.wrap ((c.toNat % 128 : Nat) : Int) = ((c.toNat % 128 : Nat) : Int) from IntWalk.u64_in _ (by omega), hshl, hor]
        have NV := Lib.hid nv
        by_cases h128 : c.toNat < 128
        · have hmod : c.toNat % 128 = c.toNat := Nat.mod_eq_of_lt h128
          have hsome : numB x.rest = some (2 ^ (7 * i) * (c.toNat % 128) + acc, i + 1) := by
            rw [hnum, if_pos h128]; simp only [Option.map_some]; rw [hmod, Nat.add_comm]
          have fin : ∀ w', Reader B se w' S b { y with pos := y.pos + 1 } → Upd (one b) wr w' → NumPost B se S b x w (.returned (.tuple #[.int .u64 ((2 ^ (7 * i) * (c.toNat % 128) + acc : Nat) : Int), .bool true])) w' := fun w' h1 h2 =>
            ⟨({ y with pos := y.pos + 1 } : RdD), hyf, hys, (by rw [← hys]; exact hlt), (by rw [hsome]; rfl), (fun n k e => by (rw [hsome] at e; cases e; show y.pos + 1 = _; omega)), h1, HU.out.trans h2⟩
          have FIN := Lib.hid fin
          have d128 : decide ((c.toNat : Int) < 128) = true := by simp; omega
          clear hU hnum hyf hys hyp hyz hR hcl hrn hf10 hlen hp7 hbad fin hacc hlt hgood hc9 hc0 hadd hor hand hshl h128 hmod hsome nv
          rcases tst with ⟨t1, t2, t3, t4⟩ | ⟨t1, t2, t3⟩ | ⟨t1, t2⟩
          all_goals
            go_wp2_with fail
            refine C.mono ?_
            rintro e w' ⟨rfl, h1, h2⟩
            have F := Lib.hid (FIN.out w' h1 h2)
            clear h1 h2
            go_wp2_with fail
            go_ret2
            show NumPost B se S b x w (.returned (.tuple #[.int .u64 (bits .or .u64 (acc : Int) (IntKind.u64.wrap (IntKind.u64.wrap (bits .and .u8 (c.toNat : Int) 127) * 2 ^ (7 * i)))), .bool true])) w'
            rw [NV.out]
            exact F.out
        · have hi8 : i ≤ 8 := by
            rcases Nat.lt_or_ge i 9 with h | h
            · omega
            · have := hc9 (by omega); omega
          have hacc2 : 2 ^ (7 * i) * (c.toNat % 128) + acc < 2 ^ (7 * (i + 1)) := by
            rw [show 7 * (i + 1) = 7 * i + 7 from by omega, Nat.pow_add]
            have h1 : c.toNat % 128 + 1 ≤ 2 ^ 7 := by have : (2 : Nat) ^ 7 = 128 := rfl; omega
            have := Nat.mul_le_mul_left (2 ^ (7 * i)) h1
            rw [Nat.mul_add, Nat.mul_one] at this
            omega
          have hnum2 : numB x.rest = (numGo (10 - (i + 1)) (i + 1 == 0) l).map (fun p => ((2 ^ (7 * i) * (c.toNat % 128) + acc) + 2 ^ (7 * (i + 1)) * p.1, (i + 1) + p.2)) := by
            rw [hnum, if_neg h128, show 10 - (i + 1) = f from by omega, show (i + 1 == 0) = false from by simp, Option.map_map]
            congr 1
            funext p
            simp only [Function.comp]
            rw [show 7 * (i + 1) = 7 * i + 7 from by omega, Nat.pow_add, Nat.mul_add]
            refine Prod.ext ?_ (by omega)
            show acc + (_ + 2 ^ (7 * i) * (128 * p.1)) = _ + acc + 2 ^ (7 * i) * 2 ^ 7 * p.1
            rw [show (2 : Nat) ^ 7 = 128 from rfl, Nat.mul_assoc]
            omega
          have fin : ∀ w', Reader B se w' S b { y with pos := y.pos + 1 } → Upd (one b) wr w' → NumRel B se S b x w (.int .u64 ((2 ^ (7 * i) * (c.toNat % 128) + acc : Nat) : Int)) (.int .i64 ((i : Int) + 1)) w' := fun w' h1 h2 =>
            ⟨i + 1, _, ({ y with pos := y.pos + 1 } : RdD), by simp, rfl, by omega, hacc2, hyf, hys, (by show y.pos + 1 = _; omega), (by rw [← hys]; exact hlt), (by rw [hrn]; exact hnum2), h1, HU.out.trans h2⟩
          have FIN := Lib.hid fin
          have d128 : decide ((c.toNat : Int) < 128) = false := by simp; omega
          clear hU hnum hyf hys hyp hyz hR hcl hrn hf10 hlen hp7 hbad fin hacc hlt hgood hc9 hc0 hadd hor hand hshl h128 nv hacc2 hnum2
          rcases tst with ⟨t1, t2, t3, t4⟩ | ⟨t1, t2, t3⟩ | ⟨t1, t2⟩
          all_goals
            go_wp2_with fail
            refine C.mono ?_
            rintro e w' ⟨rfl, h1, h2⟩
            have F := Lib.hid (FIN.out w' h1 h2)
            clear h1 h2
            go_wp2_with fail
            rw [NV.out]
            exact ⟨F.out, by simp [intOf]; try omega⟩
    · have hnil : y.rest = [] := by
        unfold RdD.rest
        apply List.drop_eq_nil_of_le
        rw [Array.length_toList]; have e : y.s.data.size = y.s.size := rfl; omega
      have C := next_no hR 1 (.inr (by omega)) (by omega)
      obtain ⟨f, hf10⟩ : ∃ f, 10 - i = f + 1 := ⟨9 - i, by omega⟩
      have hnone : numB x.rest = none := by rw [hnum, hf10, hnil]; rfl
      have fin : ∀ w', Ext wr w' → NumPost B se S b x w (.returned (.tuple #[.int .u64 0, .bool false])) w' := fun w' h1 =>
        ⟨y, hyf, hys, hyz, (by rw [hnone]; rfl), (fun n k e => by (rw [hnone] at e; cases e)), hR.ext h1, HU.out.trans (Upd.ext h1 _)⟩
      have FIN := Lib.hid fin
      clear hU hnum hyf hys hyp hyz hR hf10 hnone fin hacc hlt hnil
      go_wp2_with fail
      refine C.mono ?_
      rintro e w' ⟨rfl, h1⟩
      have F := Lib.hid (FIN.out w' h1)
      clear h1
      go_wp2_with fail
      go_ret2
      exact F.out

/-- Behind a fault the place does not matter. -/
theorem Reader.anypos {B b : Nat} {se : Nat → Addr} {w : World} {S : Nat → Prop} {x y : RdD} (h : Reader B se w S b y) (hs : y.s = x.s) (hf : y.f = x.f) (hx : x.f ≠ none) : Reader B se w S b x where
  ex := by
    obtain ⟨fv, a, h1, h2, h3, h4, h5⟩ := h.ex
    exact ⟨fv, a, by rw [← hs]; exact h1, by rw [← hs]; exact h2, fun e => absurd e hx, by rw [← hf]; exact h4, h5⟩
  sz := by rw [← hs]; exact h.sz
  mem := h.mem
  low := h.low
  lt := h.lt
/-- Two calls, one behind the other. -/
theorem Reader.again {B b : Nat} {se : Nat → Addr} {w w1 w2 : World} {S : Nat → Prop} {x y : RdD} (h : Reader B se w S b x) (hB : B ≤ w.heap.size) (u1 : Upd (one b) w w1) (h2 : Reader B se w2 (plus (plus S w.heap.size w1.heap.size) w1.heap.size w2.heap.size) b y) (u2 : Upd (one b) w1 w2) :
    Reader B se w2 (plus S w.heap.size w2.heap.size) b y ∧ Upd (one b) w w2 :=
  ⟨h2.weaken (fun k hk => plus_plus u1.size u2.size k hk) (fun k hk => ⟨hk.elim (h.low k) (fun hk => by omega), hk.elim (fun hk => Nat.lt_of_lt_of_le (h.lt k hk) (Nat.le_trans u1.size u2.size)) (fun hk => hk.2)⟩), u1.trans u2⟩
theorem Reader.start {B b : Nat} {se : Nat → Addr} {w : World} {S : Nat → Prop} {x : RdD} (h : Reader B se w S b x) : Reader B se w (plus S w.heap.size w.heap.size) b x :=
  h.weaken (fun k hk => .inl hk) (fun k hk => ⟨hk.elim (h.low k) (fun hk => by omega), hk.elim (h.lt k) (fun hk => by omega)⟩)

/-- The next number. -/
def RdD.var (x : RdD) : Nat × RdD :=
  if x.f = none then match numB x.rest with
    | some (n, k) => (n, { x with pos := x.pos + k })
    | none => (0, { x with f := some (3, some (x.pos : Int)) })
  else (0, x)
theorem below_one {B b : Nat} {w w' : World} (u : Upd (one b) w w') (hB : B ≤ w.heap.size) (hb : B ≤ b) : Below B w w' := u.below hB (fun k hk => by cases hk; exact hb)
set_option maxHeartbeats 1000000 in
theorem var_ok {B b : Nat} {se : Nat → Addr} {w : World} {S : Nat → Prop} {x : RdD} (G : Genv B se w) (h : Reader B se w S b x) :
    Calls Tryz.prog 52 #[.pointer (some ⟨b, 0, none⟩)] w fun e w' => e = .returned (.int .u64 x.var.1) ∧ Reader B se w' (plus S w.heap.size w'.heap.size) b x.var.2 ∧ Upd (one b) w w' := by
  have C := ready_ok h
  have hstart := h.start
  obtain ⟨fv, a, hb, ha, hp, he, hi⟩ := h.ex
  have c1 := cell_of_blk hb 1
  by_cases hf : x.f = none
  · rw [hf] at C
    have hap := hp hf
    subst hap
    have C2 := number_ok h hf ha
    have HH := Lib.hid h
    have HG := Lib.hid G
    cases hn : numB x.rest with
    | some p =>
      obtain ⟨n, k⟩ := p
      have e1 : x.var = (n, { x with pos := x.pos + k }) := by unfold RdD.var; rw [if_pos hf, hn]
      rw [e1]
      have HN := Lib.hid hn
      have HF := Lib.hid hf
      clear h hb he hp hi hf e1 hn G hstart
      go_enter Tryz.func52, Tryz.ntmps52
      go_wp2_with (go_at_call 123; refine C.mono ?_; rintro e w' ⟨rfl, rfl⟩)
      refine C2.mono ?_
      rintro e w1 ⟨y, y1, y2, y3, y4, y5, y6, y7⟩
      rw [HN.out] at y4
      simp only [numEnd] at y4
      subst y4
      have hy := y5 n k HN.out
      have fin : Reader B se w1 S b { x with pos := x.pos + k } := by
        have ey : y = { x with pos := x.pos + k } := by cases y; simp_all [HF.out]
        rw [← ey]; exact y6
      have FIN := Lib.hid (HH.out.grow HG.out.size _ y7.size fin rfl)
      have HU := Lib.hid y7
      clear y1 y2 y3 y5 y6 y7 hy fin
      go_wp2
      go_ret
      exact ⟨rfl, FIN.out, HU.out⟩
    | none =>
      have e1 : x.var = (0, { x with f := some (3, some (x.pos : Int)) }) := by unfold RdD.var; rw [if_pos hf, hn]
      rw [e1]
      have HN := Lib.hid hn
      have HF := Lib.hid hf
      clear h hb he hp hi hf e1 hn G hstart
      go_enter Tryz.func52, Tryz.ntmps52
      go_wp2_with (go_at_call 123; refine C.mono ?_; rintro e w' ⟨rfl, rfl⟩)
      refine C2.mono ?_
      rintro e w1 ⟨y, y1, y2, y3, y4, y5, y6, y7⟩
      rw [HN.out] at y4
      simp only [numEnd] at y4
      subst y4
      have G1 := HG.out.below (below_one y7 HG.out.size (HH.out.low b HH.out.mem))
      have yg := HH.out.grow HG.out.size _ y7.size y6 rfl
      have C3 := bad_ok G1 yg (x.pos : Int)
      have YF := Lib.hid (And.intro y1 y2)
      have HU := Lib.hid y7
      clear y1 y2 y3 y5 y6 y7 G1 yg
      go_wp2_with fail
      refine C3.mono ?_
      rintro e w2 ⟨rfl, h1, h2⟩
      have A := HH.out.again HG.out.size HU.out h1 h2
      have A1 := A.1.anypos (x := { x with f := some (3, some (x.pos : Int)) }) (by rw [← YF.out.2]; unfold RdD.fail; split <;> rfl) (by unfold RdD.fail; rw [if_pos YF.out.1]) (by simp)
      have FIN := Lib.hid (And.intro A1 A.2)
      clear A A1 h1 h2
      go_wp2
      go_ret
      exact ⟨rfl, FIN.out⟩
  · rw [show x.f.isNone = false from by cases h : x.f <;> simp_all] at C
    have e1 : x.var = (0, x) := by unfold RdD.var; rw [if_neg hf]
    rw [e1]
    have HS := Lib.hid hstart
    clear h hb he hp hi hf e1 G hstart
    go_enter Tryz.func52, Tryz.ntmps52
    go_wp2_with (go_at_call 123; refine C.mono ?_; rintro e w' ⟨rfl, rfl⟩)
    go_ret
    exact ⟨rfl, HS.out, Upd.refl _ _⟩
theorem newReader_ok (s : ByteArray) (w : World) : Calls Tryz.prog 49 #[.string s] w fun e w' => e = .returned (.pointer (some ⟨w.heap.size, 0, none⟩)) ∧ w' = w.alloc (.cells #[.string s, .int .i64 0, .nilIface, .bool true] 145) := by
  go_enter Tryz.func49, Tryz.ntmps49
  go_wp2
  go_ret
  exact ⟨rfl, rfl⟩
theorem newReader_is (s : ByteArray) (hs : s.size ≤ 9223372036854775807) (w : World) (B : Nat) (hB : B ≤ w.heap.size) (se : Nat → Addr) : Reader B se (w.alloc (.cells #[.string s, .int .i64 0, .nilIface, .bool true] 145)) (one w.heap.size) w.heap.size ⟨s, 0, none⟩ where
  ex := ⟨.nilIface, 0, blk_alloc w _, Nat.zero_le _, fun _ => rfl, rfl, fun p hp => by cases hp⟩
  sz := hs
  mem := rfl
  low k hk := by cases hk; exact hB
  lt k hk := by cases hk; simp

/-- The next text, of at most so many bytes. -/
def RdD.text (x : RdD) (most : Int) : List UInt8 × RdD :=
  if most < 0 then ([], x.fail (some (2, none))) else
  if x.f ≠ none then ([], x) else
  if x.var.2.f ≠ none then ([], x.var.2) else
  if most < (x.var.1 : Int) then ([], x.var.2.fail (some (4, none))) else x.var.2.take x.var.1 x.pos
theorem fail_isNone (x : RdD) (e : EV) (h : e ≠ none) : (x.fail e).f.isNone = false := by
  unfold RdD.fail
  split
  · cases e <;> simp_all
  · cases hf : x.f <;> simp_all
theorem sv_in (se : Nat → Addr) (k : Nat) (S : Nat → Prop) : ErrIn (sv se k) S := fun p hp => by simp [sv] at hp
theorem numGo_lt (f : Nat) (first : Bool) (l : List UInt8) (n k : Nat) (h : numGo (f + 1) first l = some (n, k)) : n < 2 ^ (7 * f + 1) ∧ 1 ≤ k ∧ k ≤ l.length := by
  induction f generalizing first l n k with
  | zero =>
    cases l with
    | nil => simp [numGo] at h
    | cons c l =>
      unfold numGo at h
      split at h
      · cases h
      · rename_i hb
        split at h
        · cases h
          exact ⟨by rcases Nat.lt_or_ge 1 c.toNat with h1 | h1; · exact absurd (.inl ⟨rfl, h1⟩) hb
                    simp; omega, by omega, by simp⟩
        · simp [numGo] at h
  | succ f ih =>
    cases l with
    | nil => simp [numGo] at h
    | cons c l =>
      rw [numGo] at h
      split at h
      · cases h
      · split at h
        · cases h
          have : (2 : Nat) ^ 8 ≤ 2 ^ (7 * (f + 1) + 1) := Nat.pow_le_pow_right (by omega) (by omega)
          exact ⟨by have e : (2 : Nat) ^ 8 = 256 := rfl; omega, by omega, by simp⟩
        · cases hn : numGo (f + 1) false l with
          | none => rw [hn] at h; cases h
          | some p =>
            obtain ⟨m, q⟩ := p
            rw [hn] at h
            simp only [Option.map_some, Option.some.injEq, Prod.mk.injEq] at h
            obtain ⟨rfl, rfl⟩ := h
            have := ih false l m q hn
            refine ⟨?_, by omega, by simp; omega⟩
            rw [show 7 * (f + 1) + 1 = (7 * f + 1) + 7 from by omega, Nat.pow_add]
            have e : (2 : Nat) ^ 7 = 128 := rfl
            omega
theorem var_lt (x : RdD) : x.var.1 < 18446744073709551616 := by
  unfold RdD.var
  split
  · cases hn : numB x.rest with
    | none => simp
    | some p => obtain ⟨n, k⟩ := p; exact (numGo_lt 9 true x.rest n k hn).1
  · simp
theorem var_pos (x : RdD) (h : x.var.2.f = none) (hx : x.f = none) (hp : x.pos ≤ x.s.size) : x.var.2.pos ≤ x.s.size ∧ x.var.2.s = x.s := by
  unfold RdD.var at *
  rw [if_pos hx] at *
  cases hn : numB x.rest with
  | none => rw [hn] at h; simp at h
  | some p =>
    obtain ⟨n, k⟩ := p
    have := (numGo_lt 9 true x.rest n k hn).2.2
    have e : x.s.data.size = x.s.size := rfl
    simp [RdD.rest] at this
    exact ⟨by simp; omega, rfl⟩

set_option maxRecDepth 4000 in
set_option maxHeartbeats 1000000 in
theorem text_ok {B b : Nat} {se : Nat → Addr} {w : World} {S : Nat → Prop} {x : RdD} (G : Genv B se w) (h : Reader B se w S b x) (most : Int) (hm : most ≤ 9223372036854775807) :
    Calls Tryz.prog 53 #[.pointer (some ⟨b, 0, none⟩), .int .i64 most] w fun e w' => e = .returned (.string (str (x.text most).1)) ∧ Reader B se w' (plus S w.heap.size w'.heap.size) b (x.text most).2 ∧ Upd (one b) w w' := by
  have HG := Lib.hid G
  have HH := Lib.hid h
  have g2 := G.cell 2 (by decide) (by decide)
  have g4 := G.cell 4 (by decide) (by decide)
  by_cases hneg : most < 0
  · have e1 : x.text most = ([], x.fail (some (2, none))) := by unfold RdD.text; rw [if_pos hneg]
    rw [e1]
    have C := fail_ok h (sv se 2) (some (2, none)) ⟨by omega, by omega, rfl⟩ (by simp) (sv_in _ _ _)
    simp only [gno] at g2
    have hno := fail_isNone x (some (2, none)) (by simp)
    have HN := Lib.hid hno
    clear h e1 G g4 hno
    go_enter Tryz.func53, Tryz.ntmps53
    go_wp2_with fail
    refine C.mono ?_
    rintro e w1 ⟨rfl, h1, h2⟩
    have C2 := ready_ok h1
    rw [HN.out] at C2
    have H1 := Lib.hid (HH.out.grow HG.out.size _ h2.size h1 rfl)
    have H2 := Lib.hid h2
    clear h1 h2 C
    go_wp2_with (go_at_call 123; refine C2.mono ?_; rintro e w' ⟨rfl, rfl⟩)
    go_ret
    exact ⟨rfl, H1.out, H2.out⟩
  · have C := ready_ok h
    by_cases hf : x.f = none
    · rw [hf] at C
      obtain ⟨fv, a, hb, ha, hp, he, hi⟩ := h.ex
      have c1 := cell_of_blk hb 1
      have hap := hp hf
      subst hap
      have C2 := var_ok G h
      have hvl : x.var.1 < 18446744073709551616 := var_lt x
      have ht : x.text most = (if x.var.2.f ≠ none then ([], x.var.2) else if most < (x.var.1 : Int) then ([], x.var.2.fail (some (4, none))) else x.var.2.take x.var.1 x.pos) := by
        unfold RdD.text; rw [if_neg hneg, if_neg (by simp [hf])]
      simp only [gno] at g4
      by_cases hvf : x.var.2.f = none
      · rw [if_neg (by simp [hvf])] at ht
        by_cases hbig : most < (x.var.1 : Int)
        · rw [if_pos hbig] at ht
          rw [ht]
          have hno := fail_isNone x.var.2 (some (4, none)) (by simp)
          have HN := Lib.hid hno
          have HNF := Lib.hid hvf
          clear h hb he hp hi hf ht hvf hno G g2
          generalize x.var = v at *
          go_enter Tryz.func53, Tryz.ntmps53
          go_wp2_with (go_at_call 123; refine C.mono ?_; rintro e w' ⟨rfl, rfl⟩)
          refine C2.mono ?_
          rintro e w1 ⟨rfl, h1, h2⟩
          have G1 := HG.out.below (below_one h2 HG.out.size (HH.out.low b HH.out.mem))
          have k4 := G1.cell 4 (by decide) (by decide)
          simp only [gno] at k4
          have C3 := fail_ok h1 (sv se 4) (some (4, none)) ⟨by omega, by omega, rfl⟩ (by simp) (sv_in _ _ _)
          have H1 := Lib.hid h1
          have H2 := Lib.hid h2
          have HG1 := Lib.hid G1
          clear h1 h2 G1 C C2
          go_wp2_with fail
          refine C3.mono ?_
          rintro e w2 ⟨rfl, h3, h4⟩
          have C4 := ready_ok h3
          rw [HN.out] at C4
          have A := Lib.hid (HH.out.again HG.out.size H2.out (H1.out.grow HG1.out.size _ h4.size h3 rfl) h4)
          clear h3 h4 C3
          go_wp2_with (go_at_call 123; refine C4.mono ?_; rintro e w' ⟨rfl, rfl⟩)
          go_ret
          exact ⟨rfl, A.out⟩
        · rw [if_neg hbig] at ht
          rw [ht]
          have hle : (x.var.1 : Int) ≤ most := by omega
          have HNF := Lib.hid hvf
          clear h hb he hp hi hf ht hvf G g2 g4
          generalize x.var = v at *
          go_enter Tryz.func53, Tryz.ntmps53
          go_wp2_with (go_at_call 123; refine C.mono ?_; rintro e w' ⟨rfl, rfl⟩)
          refine C2.mono ?_
          rintro e w1 ⟨rfl, h1, h2⟩
          have G1 := HG.out.below (below_one h2 HG.out.size (HH.out.low b HH.out.mem))
          have C3 := ready_ok h1
          rw [HNF.out] at C3
          have C4 := take_ok G1 h1 v.1 (x.pos : Int) (by omega)
          have H1 := Lib.hid h1
          have H2 := Lib.hid h2
          clear h1 h2 G1 C C2
          go_wp2_with (go_at_call 123; refine C3.mono ?_; rintro e w' ⟨rfl, rfl⟩)
          refine C4.mono ?_
          rintro e w2 ⟨rfl, h3, h4⟩
          have A := Lib.hid (HH.out.again HG.out.size H2.out h3 h4)
          clear h3 h4
          go_wp2
          go_ret
          exact ⟨rfl, A.out⟩
      · rw [if_pos hvf] at ht
        rw [ht]
        have hz : x.var.1 = 0 := by
          unfold RdD.var at hvf ⊢
          rw [if_pos hf] at *
          cases hn : numB x.rest with
          | none => rfl
          | some p => rw [hn] at hvf; exact absurd hf hvf
        rw [hz] at C2
        have HNF := Lib.hid (show x.var.2.f.isNone = false from by cases h : x.var.2.f <;> simp_all)
        clear h hb he hp hi hf ht hvf G g2 g4 hz hvl
        generalize x.var.2 = v at *
        go_enter Tryz.func53, Tryz.ntmps53
        go_wp2_with (go_at_call 123; refine C.mono ?_; rintro e w' ⟨rfl, rfl⟩)
        refine C2.mono ?_
        rintro e w1 ⟨rfl, h1, h2⟩
        have C3 := ready_ok h1
        rw [HNF.out] at C3
        have H1 := Lib.hid h1
        have H2 := Lib.hid h2
        clear h1 h2 C C2
        go_wp2_with (go_at_call 123; refine C3.mono ?_; rintro e w' ⟨rfl, rfl⟩)
        go_ret
        exact ⟨rfl, H1.out, H2.out⟩
    · rw [show x.f.isNone = false from by cases h : x.f <;> simp_all] at C
      have e1 : x.text most = ([], x) := by unfold RdD.text; rw [if_neg hneg, if_pos hf]
      rw [e1]
      have HS := Lib.hid h.start
      clear h hf e1 G g2 g4
      go_enter Tryz.func53, Tryz.ntmps53
      go_wp2_with (go_at_call 123; refine C.mono ?_; rintro e w' ⟨rfl, rfl⟩)
      go_ret
      exact ⟨rfl, HS.out, Upd.refl _ _⟩

/-- A number, the highest byte first. -/
def beNum (l : List UInt8) : Nat := l.foldl (fun n c => n * 256 + c.toNat) 0
theorem beNum_snoc (l : List UInt8) (c : UInt8) : beNum (l ++ [c]) = beNum l * 256 + c.toNat := by simp [beNum, List.foldl_append]
theorem beNum_lt (l : List UInt8) : beNum l < 256 ^ l.length := by
  have key : ∀ (l : List UInt8) (a : Nat), l.foldl (fun n c => n * 256 + c.toNat) a < (a + 1) * 256 ^ l.length := by
    intro l
    induction l with
    | nil => intro a; simp
    | cons c l ih =>
      intro a
      have h1 := ih (a * 256 + c.toNat)
      have h2 := c.toNat_lt
      rw [List.foldl_cons, List.length_cons, Nat.pow_succ]
      refine Nat.lt_of_lt_of_le h1 ?_
      rw [Nat.mul_comm (256 ^ l.length) 256, ← Nat.mul_assoc]
      exact Nat.mul_le_mul_right _ (by omega)
  unfold beNum
  simpa using key l 0
theorem conv_bytes (l : List UInt8) (w : World) : ∃ cap w', (convert 9 93 (.string (str l))).run Tryz.prog w = .ok (.slice (some ⟨w.heap.size, 0, none⟩) l.length cap) w' ∧ Ext w w' ∧ w.heap.size < w'.heap.size ∧
    ∀ j c, l[j]? = some c → w'.cell? ⟨w.heap.size, j, none⟩ = some (u8v c) := by
  have e := run_bytes_of_string (P := Tryz.prog) w 9 93 5 (str l) Tryz.underlying9 Tryz.underlying93 Tryz.underlying5
  rw [str_size] at e
  refine ⟨_, _, e, ((Upd.refl _ _).drew).alloc _, by simp, fun j c hj => ?_⟩
  have hb := blk_alloc w.drew (.cells (bytesRow (str l) (grownCap w l.length 0 5)) 5 ((bytesRow (str l) (grownCap w l.length 0 5)).size, (bytesRow (str l) (grownCap w l.length 0 5)).size + 1))
  have hlt : j < l.length := (List.getElem?_eq_some_iff.1 hj).1
  rw [show w.heap.size = w.drew.heap.size from rfl, cell_of_blk hb]
  have hc : l[j] = c := (List.getElem?_eq_some_iff.1 hj).2
  simp [bytesRow, Array.getElem?_append, hlt, hc]
theorem or_low (a c : Nat) (hc : c < 256) (h : 256 * a + c < 18446744073709551616) : bits .or .u64 ((256 * a : Nat) : Int) (c : Int) = ((256 * a + c : Nat) : Int) := by
  have e := Nat.two_pow_add_eq_or_of_lt (i := 8) (b := c) (by omega) a
  have p8 : (2 : Nat) ^ 8 = 256 := rfl
  rw [p8] at e
  have b1 : (BitVec.ofInt IntKind.u64.bits (c : Int)).toNat = c := by
    rw [BitVec.toNat_ofInt]; simp only [IntKind.bits]; omega
  have b2 : (BitVec.ofInt IntKind.u64.bits ((256 * a : Nat) : Int)).toNat = 256 * a := by
    rw [BitVec.toNat_ofInt]; simp only [IntKind.bits]; omega
  unfold bits
  simp only [BitVec.toNat_or, b1, b2]
  rw [← e]
  exact IntWalk.u64_in _ (by omega)
def RdD.fixed (x : RdD) (width : Int) : Nat × RdD :=
  if width < 1 ∨ 8 < width then (0, x.fail (some (2, none))) else
  if x.f ≠ none then (0, x) else (beNum (x.take width.toNat x.pos).1, (x.take width.toNat x.pos).2)
set_option maxRecDepth 4000 in
set_option maxHeartbeats 1000000 in
theorem fixed_mid {B b : Nat} {se : Nat → Addr} {w : World} {S : Nat → Prop} {x : RdD} (G : Genv B se w) (h : Reader B se w S b x) (k : Nat) (hk : 1 ≤ k) (hk2 : k ≤ 8) (hf : x.f = none) :
    Calls Tryz.prog 50 #[.pointer (some ⟨b, 0, none⟩), .int .i64 k] w fun e w' => e = .returned (.int .u64 (x.fixed k).1) ∧ Reader B se w' (plus S w.heap.size w'.heap.size) b (x.fixed k).2 ∧ Upd (one b) w w' := by
  have HG := Lib.hid G
  have HH := Lib.hid h
  have C := ready_ok h
  rw [hf] at C
  obtain ⟨fv, a, hb, ha, hp, he, hi⟩ := h.ex
  have c1 := cell_of_blk hb 1
  have hap := hp hf
  subst hap
  have C2 := take_ok G h k (x.pos : Int) (by omega)
  have d1 : decide ((k : Int) < 1) = false := by simp; omega
  have d2 : decide (8 < (k : Int)) = false := by simp; omega
  have e1 : x.fixed k = (beNum (x.take k x.pos).1, (x.take k x.pos).2) := by
    unfold RdD.fixed; rw [if_neg (by omega), if_neg (by simp [hf]), Int.toNat_natCast]
  rw [e1]
  clear h hb he hp hi hf e1 G
  have hlen : (x.take k x.pos).1.length ≤ 8 := by
    unfold RdD.take; split
    · exact Nat.le_trans (List.length_take_le _ _) hk2
    · simp
  generalize x.take k x.pos = t at *
  go_enter Tryz.func50, Tryz.ntmps50
  go_wp2_with (go_at_call 123; refine C.mono ?_; rintro e w' ⟨rfl, rfl⟩)
  refine C2.mono ?_
  rintro e w1 ⟨rfl, h1, h2⟩
  obtain ⟨cap, w2, hrun, hX, hsz2, hcells⟩ := conv_bytes t.1 w1
  have HX := Lib.hid hX
  have HCE := Lib.hid hcells
  have H1 := Lib.hid h1
  have H2 := Lib.hid h2
  have HL := Lib.hid hlen
  have hle8 : t.1.length ≤ 9223372036854775807 := by omega
  clear hX hcells h1 h2 C C2 hlen
  go_wp2_with fail
  clear hrun
  go_loopw [5, 29] (fun nv iv wr => ∃ (j : Nat), iv = .int .i64 j ∧ j ≤ t.1.length ∧ nv = .int .u64 (beNum (t.1.take j)) ∧ wr = w2) (fun _ iv _ => t.1.length - (intOf iv).toNat)
  case atStart => exact ⟨0, rfl, by omega, rfl, rfl⟩
  case round =>
    obtain ⟨j, rfl, hj, rfl, rfl⟩ := hrel
    by_cases hlt : j < t.1.length
    · have hcl := HCE.out j t.1[j] (by simp [hlt])
      have htk : t.1.take (j + 1) = t.1.take j ++ [t.1[j]] := by rw [List.take_succ_eq_append_getElem hlt]
      have hb1 := beNum_lt (t.1.take (j + 1))
      have hs1 := beNum_snoc (t.1.take j) t.1[j]
      rw [← htk] at hs1
      have hlen8 : (t.1.take (j + 1)).length ≤ 8 := Nat.le_trans (by rw [List.length_take]; exact Nat.min_le_right _ _) HL.out
      have h64 : beNum (t.1.take (j + 1)) < 18446744073709551616 := by
        have : (256 : Nat) ^ (t.1.take (j + 1)).length ≤ 256 ^ 8 := Nat.pow_le_pow_right (by omega) hlen8
        have e : (256 : Nat) ^ 8 = 18446744073709551616 := rfl
        omega
      have hc := t.1[j].toNat_lt
      have nv : bits .or .u64 (IntKind.u64.wrap ((beNum (t.1.take j) : Int) * 256)) (IntKind.u64.wrap (t.1[j].toNat : Int)) = (beNum (t.1.take (j + 1)) : Int) := by
        rw [IntWalk.u64_in ((beNum (t.1.take j) : Int) * 256) (by omega), IntWalk.u64_in (t.1[j].toNat : Int) (by omega), show (beNum (t.1.take j) : Int) * 256 = ((256 * beNum (t.1.take j) : Nat) : Int) from by omega, or_low _ _ hc (by omega)]
        omega
      have NV := Lib.hid nv
      clear htk hb1 hs1 hlen8 h64 hc nv
      go_wp2_with fail
      exact ⟨⟨j + 1, by simp, by omega, by rw [NV.out], trivial⟩, by simp [intOf]; omega⟩
    · obtain rfl : j = t.1.length := by omega
      have hs := HX.out.size
      have fin : Reader B se wr (plus S w.heap.size wr.heap.size) b t.2 := (H1.out.ext HX.out).weaken (fun k hk => hk.imp id (fun hk => ⟨hk.1, Nat.lt_of_lt_of_le hk.2 hs⟩)) (fun k hk => ⟨hk.elim (HH.out.low k) (fun hk => by have := HG.out.size; omega), hk.elim (fun hk => by have := HH.out.lt k hk; have := H2.out.size; omega) (fun hk => hk.2)⟩)
      have FIN := Lib.hid fin
      clear fin hs
      go_wp2_with fail
      go_ret
      exact ⟨by simp, FIN.out, H2.out.thenExt HX.out⟩

theorem fixed_ok {B b : Nat} {se : Nat → Addr} {w : World} {S : Nat → Prop} {x : RdD} (G : Genv B se w) (h : Reader B se w S b x) (k : Int) :
    Calls Tryz.prog 50 #[.pointer (some ⟨b, 0, none⟩), .int .i64 k] w fun e w' => e = .returned (.int .u64 (x.fixed k).1) ∧ Reader B se w' (plus S w.heap.size w'.heap.size) b (x.fixed k).2 ∧ Upd (one b) w w' := by
  have HG := Lib.hid G
  have HH := Lib.hid h
  have g2 := G.cell 2 (by decide) (by decide)
  simp only [gno] at g2
  by_cases hbad : k < 1 ∨ 8 < k
  · have e1 : x.fixed k = (0, x.fail (some (2, none))) := by unfold RdD.fixed; rw [if_pos hbad]
    rw [e1]
    have C := fail_ok h (sv se 2) (some (2, none)) ⟨by omega, by omega, rfl⟩ (by simp) (sv_in _ _ _)
    have HN := Lib.hid (fail_isNone x (some (2, none)) (by simp))
    have hh : ((decide (k < 1) = true) ∨ (decide (k < 1) = false ∧ decide (8 < k) = true)) := by
      by_cases h : k < 1
      · exact .inl (by simpa using h)
      · exact .inr ⟨by simpa using h, by simp; omega⟩
    clear h e1 G hbad
    rcases hh with h1 | ⟨h1, h2⟩
    all_goals
      go_enter Tryz.func50, Tryz.ntmps50
      go_wp2_with fail
      refine C.mono ?_
      rintro e w1 ⟨rfl, h1, h2⟩
      have C2 := ready_ok h1
      rw [HN.out] at C2
      have H1 := Lib.hid (HH.out.grow HG.out.size _ h2.size h1 rfl)
      have H2 := Lib.hid h2
      clear h1 h2 C
      go_wp2_with (go_at_call 123; refine C2.mono ?_; rintro e w' ⟨rfl, rfl⟩)
      go_ret
      exact ⟨rfl, H1.out, H2.out⟩
  · obtain ⟨n, rfl⟩ : ∃ n : Nat, k = n := ⟨k.toNat, by omega⟩
    by_cases hf : x.f = none
    · exact fixed_mid G h n (by omega) (by omega) hf
    · have C := ready_ok h
      rw [show x.f.isNone = false from by cases h : x.f <;> simp_all] at C
      have e1 : x.fixed n = (0, x) := by unfold RdD.fixed; rw [if_neg hbad, if_pos hf]
      rw [e1]
      have HS := Lib.hid h.start
      have d1 : decide ((n : Int) < 1) = false := by simp; omega
      have d2 : decide (8 < (n : Int)) = false := by simp; omega
      clear h hf e1 G g2 hbad
      go_enter Tryz.func50, Tryz.ntmps50
      go_wp2_with (go_at_call 123; refine C.mono ?_; rintro e w' ⟨rfl, rfl⟩)
      go_ret
      exact ⟨rfl, HS.out, Upd.refl _ _⟩
end Go.Proofs.YtljnhelnmnomoaaGreatDoor
