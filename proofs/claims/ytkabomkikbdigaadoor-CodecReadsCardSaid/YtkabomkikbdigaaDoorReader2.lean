/- codec.Reader: next, take, Left, End by contracts. -/
import Derived.Test.YtkabomkikbdigaaDoorReader
namespace Go.Proofs.YtkabomkikbdigaaDoor
open Go.RowKit Go.Lib

theorem ext_drewN (w : World) (n : Nat) : Ext w (w.drewN n) := (Upd.refl _ _).drewN n
/-- What is left of the text. -/
def RdD.rest (x : RdD) : List UInt8 := x.s.data.toList.drop x.pos
theorem extract_str (s : ByteArray) (a n : Nat) (_h : a + n ≤ s.size) : s.extract a (a + n) = str ((s.data.toList.drop a).take n) := by
  apply ByteArray.ext
  apply Array.ext'
  simp
set_option maxHeartbeats 1000000 in
theorem next_no {B b : Nat} {se : Nat → Addr} {w : World} {S : Nat → Prop} {x : RdD} (h : Reader B se w S b x) (n : Nat) (hn : x.f ≠ none ∨ x.s.size < x.pos + n) (hn2 : n ≤ 9223372036854775807) :
    Calls Tryd.prog 51 #[.pointer (some ⟨b, 0, none⟩), .int .i64 n] w fun e w' => e = .returned (.tuple #[.string ⟨#[]⟩, .bool false]) ∧ Ext w w' := by
  obtain ⟨fv, a, hb, ha, hp, he, hi⟩ := h.ex
  have c0 := cell_of_blk hb 0
  have c1 := cell_of_blk hb 1
  have C := fun k => (ready_ok (h.ext (ext_drewN w k))).mono (R' := fun e w' => e = .returned (.bool (x.f.isNone)) ∧ w' = w.drewN k) (fun _ _ ⟨p, q⟩ => ⟨p, q.symm⟩)
  have hsz := h.sz
  by_cases hf : x.f = none
  · have hap := hp hf
    subst hap
    rw [hf] at C
    have ht : x.s.size < x.pos + n := hn.resolve_left (by simp [hf])
    have h1 : decide ((x.s.size : Int) - (x.pos : Int) < (n : Int)) = true := by simp; omega
    have HC := Lib.hid C
    clear h hb he hf hn hp hi C
    go_enter Tryd.func51, Tryd.ntmps51
    go_wp2
    go_quiet ((go_at_call 49; exact Calls.quiet_of_same (HC.out _)))
    go_wp2
    go_ret2
    exact ⟨rfl, ext_drewN _ _⟩
  · rw [show x.f.isNone = false from by cases h : x.f <;> simp_all] at C
    have HC := Lib.hid C
    clear h hb he hf hn hp hi C
    go_enter Tryd.func51, Tryd.ntmps51
    go_wp2
    go_quiet ((go_at_call 49; exact Calls.quiet_of_same (HC.out _)))
    go_wp2
    go_ret2
    exact ⟨rfl, ext_drewN _ _⟩
set_option maxHeartbeats 1000000 in
theorem next_yes {B b : Nat} {se : Nat → Addr} {w : World} {S : Nat → Prop} {x : RdD} (h : Reader B se w S b x) (n : Nat) (hf : x.f = none) (hn : x.pos + n ≤ x.s.size) :
    Calls Tryd.prog 51 #[.pointer (some ⟨b, 0, none⟩), .int .i64 n] w fun e w' => e = .returned (.tuple #[.string (str (x.rest.take n)), .bool true]) ∧ Reader B se w' S b { x with pos := x.pos + n } ∧ Upd (one b) w w' := by
  obtain ⟨fv, a, hb, ha, hp, he, hi⟩ := h.ex
  have c0 := cell_of_blk hb 0
  have c1 := cell_of_blk hb 1
  have f1 := free_of_blk hb 1
  have C := fun k => (ready_ok (h.ext (ext_drewN w k))).mono (R' := fun e w' => e = .returned (.bool (x.f.isNone)) ∧ w' = w.drewN k) (fun _ _ ⟨p, q⟩ => ⟨p, q.symm⟩)
  have hsz := h.sz
  have hap := hp hf
  subst hap
  rw [hf] at C
  have h1 : decide ((x.s.size : Int) - (x.pos : Int) < (n : Int)) = false := by simp; omega
  have hx : x.s.extract x.pos (x.pos + n) = str (x.rest.take n) := extract_str x.s x.pos n hn
  have fin : ∀ k, Reader B se ((w.drewN k).setCell ⟨b, 1, none⟩ (.int .i64 ((x.pos : Int) + n))) S b { x with pos := x.pos + n } ∧ Upd (one b) w ((w.drewN k).setCell ⟨b, 1, none⟩ (.int .i64 ((x.pos : Int) + n))) := fun k => by
    have U := ((Upd.refl (one b) w).drewN k).setCell (p := ⟨b, 1, none⟩) (.inr rfl) (.int .i64 ((x.pos : Int) + n))
    exact ⟨⟨⟨fv, x.pos + n, by simpa using blk_set (w := w.drewN k) hb 1 (.int .i64 ((x.pos : Int) + n)), hn, fun _ => rfl, he.upd U (fun p hp => fun e => (hi p hp).2 e), hi⟩, h.sz, h.mem, h.low, fun g hg => by have := h.lt g hg; simpa [World.setCell] using this⟩, U⟩
  have HC := Lib.hid C
  have HX := Lib.hid hx
  have FIN := Lib.hid fin
  clear h hb he hf hp hi C hx fin
  go_enter Tryd.func51, Tryd.ntmps51
  go_wp2
  go_quiet ((go_at_call 49; exact Calls.quiet_of_same (HC.out _)))
  go_wp2
  go_quiet (fail)
  go_wp2
  go_ret2
  rw [← HX.out]
  exact ⟨rfl, (FIN.out _).1, (FIN.out _).2⟩

/-- The next n bytes of what begins at a place. -/
def RdD.take (x : RdD) (n : Nat) (src : Int) : List UInt8 × RdD :=
  if x.f = none ∧ x.pos + n ≤ x.s.size then (x.rest.take n, { x with pos := x.pos + n }) else ([], x.fail (some (3, some src)))
theorem take_ok {B b : Nat} {se : Nat → Addr} {w : World} {S : Nat → Prop} {x : RdD} (G : Genv B se w) (h : Reader B se w S b x) (n : Nat) (src : Int) (hn2 : n ≤ 9223372036854775807) :
    Calls Tryd.prog 54 #[.pointer (some ⟨b, 0, none⟩), .int .i64 n, .int .i64 src] w fun e w' => e = .returned (.string (str (x.take n src).1)) ∧ Reader B se w' (plus S w.heap.size w'.heap.size) b (x.take n src).2 ∧ Upd (one b) w w' := by
  have HG := Lib.hid G
  have HH := Lib.hid h
  by_cases hc : x.f = none ∧ x.pos + n ≤ x.s.size
  · have C := next_yes h n hc.1 hc.2
    have e1 : x.take n src = (x.rest.take n, { x with pos := x.pos + n }) := if_pos hc
    rw [e1]
    clear h hc e1 G
    go_enter Tryd.func54, Tryd.ntmps54
    go_wp2_with fail
    refine C.mono ?_
    rintro e w' ⟨rfl, h1, h2⟩
    go_wp2
    go_ret
    exact ⟨rfl, HH.out.grow HG.out.size _ h2.size h1 rfl, h2⟩
  · have C := next_no h n (by by_cases hf : x.f = none; · exact .inr (by have : ¬ x.pos + n ≤ x.s.size := fun h => hc ⟨hf, h⟩; omega)
                              exact .inl hf) hn2
    have e1 : x.take n src = ([], x.fail (some (3, some src))) := if_neg hc
    rw [e1]
    clear h hc e1 G
    go_enter Tryd.func54, Tryd.ntmps54
    go_wp2_with fail
    refine C.mono ?_
    rintro e w1 ⟨rfl, h1⟩
    have C2 := bad_ok (HG.out.ext h1) (HH.out.ext h1) src
    have H1 := Lib.hid h1
    clear h1
    go_wp2_with fail
    refine C2.mono ?_
    rintro e w' ⟨rfl, h2, h3⟩
    have hs := H1.out.size
    have hs2 := h3.size
    go_wp2
    go_ret
    exact ⟨rfl, h2.weaken (fun k hk => hk.imp id (fun hk => ⟨by omega, hk.2⟩)) (fun k hk => ⟨hk.elim (HH.out.low k) (fun hk => by have := HG.out.size; omega), hk.elim (fun hk => Nat.lt_of_lt_of_le (HH.out.lt k hk) (by omega)) (fun hk => hk.2)⟩), (Upd.ext H1.out _).trans (h3.mono (fun _ _ h => h))⟩

/-- How many bytes are left. -/
def RdD.left (x : RdD) : Int := if x.f = none then (x.s.size : Int) - x.pos else 0
theorem left_ok {B b : Nat} {se : Nat → Addr} {w : World} {S : Nat → Prop} {x : RdD} (h : Reader B se w S b x) :
    Calls Tryd.prog 29 #[.pointer (some ⟨b, 0, none⟩)] w fun e w' => e = .returned (.int .i64 x.left) ∧ Ext w w' := by
  obtain ⟨fv, a, hb, ha, hp, he, hi⟩ := h.ex
  have c0 := cell_of_blk hb 0
  have c1 := cell_of_blk hb 1
  have C := ready_ok h
  have hsz := h.sz
  by_cases hf : x.f = none
  · have hap := hp hf
    subst hap
    rw [hf] at C
    rw [show x.left = (x.s.size : Int) - x.pos from if_pos hf]
    clear h hb he hf hp hi
    go_enter Tryd.func29, Tryd.ntmps29
    go_wp2_with (go_at_call 49; refine C.mono ?_; rintro e w' ⟨rfl, rfl⟩)
    go_quiet (fail)
    go_wp2
    go_ret
    exact ⟨rfl, ext_drewN _ _⟩
  · rw [show x.f.isNone = false from by cases h : x.f <;> simp_all] at C
    rw [show x.left = 0 from if_neg hf]
    clear h hb he hf hp hi
    go_enter Tryd.func29, Tryd.ntmps29
    go_wp2_with (go_at_call 49; refine C.mono ?_; rintro e w' ⟨rfl, rfl⟩)
    go_ret
    exact ⟨rfl, Upd.refl _ _⟩
/-- What End answers. -/
def RdD.fin (x : RdD) : EV := if x.f = none ∧ x.pos < x.s.size then some (3, some x.pos) else x.f
set_option maxHeartbeats 1000000 in
theorem end_ok {B b : Nat} {se : Nat → Addr} {w : World} {S : Nat → Prop} {x : RdD} (G : Genv B se w) (h : Reader B se w S b x) :
    Calls Tryd.prog 27 #[.pointer (some ⟨b, 0, none⟩)] w fun e w' => ∃ v, e = .returned v ∧ ErrIs se w' v x.fin ∧ Ext w w' := by
  obtain ⟨fv, a, hb, ha, hp, he, hi⟩ := h.ex
  have c0 := cell_of_blk hb 0
  have c1 := cell_of_blk hb 1
  have c2 := cell_of_blk hb 2
  have c3 := cell_of_blk hb 3
  have g3 := G.cell 3 (by decide) (by decide)
  simp only [gno] at g3
  have hsz := h.sz
  rcases err_form he with ⟨rfl, hx⟩ | ⟨⟨t, y, rfl⟩, hx⟩
  · have hap := hp hx
    subst hap
    by_cases hlt : x.pos < x.s.size
    · rw [show x.fin = some (3, some (x.pos : Int)) from if_pos ⟨hx, hlt⟩]
      have hd : decide ((x.pos : Int) < (x.s.size : Int)) = true := by simp; omega
      clear h hb he hx hp hi G
      go_enter Tryd.func27, Tryd.ntmps27
      go_wp2
      go_quiet (fail)
      go_wp2
      go_region
      all_goals
        go_wp2
        go_ret
        exact ⟨_, rfl, ⟨by omega, by omega, _, rfl, blk_alloc (w.drewN _) _⟩, (ext_drewN _ _).alloc _⟩
    · rw [show x.fin = none from by unfold RdD.fin; rw [if_neg (by simp [hlt]), hx]]
      have hd : decide ((x.pos : Int) < (x.s.size : Int)) = false := by simp; omega
      clear h hb he hx hp hi G
      go_enter Tryd.func27, Tryd.ntmps27
      go_wp2
      go_quiet (fail)
      go_wp2
      go_ret
      exact ⟨_, rfl, rfl, ext_drewN _ _⟩
  · rw [show x.fin = x.f from by unfold RdD.fin; rw [if_neg (by simp [hx])]]
    have HE := Lib.hid he
    clear h hb he hx hp hi G
    go_enter Tryd.func27, Tryd.ntmps27
    go_wp2
    go_quiet (fail)
    go_wp2
    go_ret
    exact ⟨_, rfl, HE.out.ext (ext_drewN _ _), ext_drewN _ _⟩
end Go.Proofs.YtkabomkikbdigaaDoor
