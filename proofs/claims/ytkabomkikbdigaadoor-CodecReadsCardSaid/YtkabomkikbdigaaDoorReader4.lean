/- codec.Reader: Var, Text, Fixed, NewReader by contracts. -/
import Derived.Test.YtkabomkikbdigaaDoorReader3
namespace Go.Proofs.YtkabomkikbdigaaDoor
open Go.RowKit Go.Lib

/-- Behind a fault the place does not matter. -/
theorem Reader.anypos {B b : Nat} {se : Nat → Addr} {w : World} {S : Nat → Prop} {x y : RdD} (h : Reader B se w S b y) (hs : y.s = x.s) (hf : y.f = x.f) (hx : x.f ≠ none) : Reader B se w S b x where
  ex := by
    obtain ⟨fv, a, h1, h2, h3, h4, h5⟩ := h.ex
    exact ⟨fv, a, by rw [← hs]; exact h1, by rw [← hs]; exact h2, fun e => absurd e hx, by rw [← hf]; exact h4, h5⟩
  sz := by rw [← hs]; exact h.sz
  mem := h.mem
  low := h.low
  lt := h.lt
/-- Two calls, one behind the other. -/
theorem Reader.again {B b : Nat} {se : Nat → Addr} {w w1 w2 : World} {S : Nat → Prop} {x y : RdD} (h : Reader B se w S b x) (hB : B ≤ w.heap.size) (u1 : Upd (one b) w w1) (h2 : Reader B se w2 (plus (plus S w.heap.size w1.heap.size) w1.heap.size w2.heap.size) b y) (u2 : Upd (one b) w1 w2) :
    Reader B se w2 (plus S w.heap.size w2.heap.size) b y ∧ Upd (one b) w w2 :=
  ⟨h2.weaken (fun k hk => plus_plus u1.size u2.size k hk) (fun k hk => ⟨hk.elim (h.low k) (fun hk => by omega), hk.elim (fun hk => Nat.lt_of_lt_of_le (h.lt k hk) (Nat.le_trans u1.size u2.size)) (fun hk => hk.2)⟩), u1.trans u2⟩
theorem Reader.start {B b : Nat} {se : Nat → Addr} {w : World} {S : Nat → Prop} {x : RdD} (h : Reader B se w S b x) : Reader B se w (plus S w.heap.size w.heap.size) b x :=
  h.weaken (fun k hk => .inl hk) (fun k hk => ⟨hk.elim (h.low k) (fun hk => by omega), hk.elim (h.lt k) (fun hk => by omega)⟩)

/-- The next number. -/
def RdD.var (x : RdD) : Nat × RdD :=
  if x.f = none then match numB x.rest with
    | some (n, k) => (n, { x with pos := x.pos + k })
    | none => (0, { x with f := some (3, some (x.pos : Int)) })
  else (0, x)
theorem below_one {B b : Nat} {w w' : World} (u : Upd (one b) w w') (hB : B ≤ w.heap.size) (hb : B ≤ b) : Below B w w' := u.below hB (fun k hk => by cases hk; exact hb)
set_option maxHeartbeats 1000000 in
theorem var_ok {B b : Nat} {se : Nat → Addr} {w : World} {S : Nat → Prop} {x : RdD} (G : Genv B se w) (h : Reader B se w S b x) :
    Calls Tryd.prog 24 #[.pointer (some ⟨b, 0, none⟩)] w fun e w' => e = .returned (.int .u64 x.var.1) ∧ Reader B se w' (plus S w.heap.size w'.heap.size) b x.var.2 ∧ Upd (one b) w w' := by
  have C := ready_ok h
  have hstart := h.start
  obtain ⟨fv, a, hb, ha, hp, he, hi⟩ := h.ex
  have c1 := cell_of_blk hb 1
  by_cases hf : x.f = none
  · rw [hf] at C
    have hap := hp hf
    subst hap
    have C2 := number_ok h hf ha
    have HH := Lib.hid h
    have HG := Lib.hid G
    cases hn : numB x.rest with
    | some p =>
      obtain ⟨n, k⟩ := p
      have e1 : x.var = (n, { x with pos := x.pos + k }) := by unfold RdD.var; rw [if_pos hf, hn]
      rw [e1]
      have HN := Lib.hid hn
      have HF := Lib.hid hf
      clear h hb he hp hi hf e1 hn G hstart
      go_enter Tryd.func24, Tryd.ntmps24
      go_wp2_with (go_at_call 49; refine C.mono ?_; rintro e w' ⟨rfl, rfl⟩)
      refine C2.mono ?_
      rintro e w1 ⟨y, y1, y2, y3, y4, y5, y6, y7⟩
      rw [HN.out] at y4
      simp only [numEnd] at y4
      subst y4
      have hy := y5 n k HN.out
      have fin : Reader B se w1 S b { x with pos := x.pos + k } := by
        have ey : y = { x with pos := x.pos + k } := by cases y; simp_all [HF.out]
        rw [← ey]; exact y6
      have FIN := Lib.hid (HH.out.grow HG.out.size _ y7.size fin rfl)
      have HU := Lib.hid y7
      clear y1 y2 y3 y5 y6 y7 hy fin
      go_wp2
      go_ret
      exact ⟨rfl, FIN.out, HU.out⟩
    | none =>
      have e1 : x.var = (0, { x with f := some (3, some (x.pos : Int)) }) := by unfold RdD.var; rw [if_pos hf, hn]
      rw [e1]
      have HN := Lib.hid hn
      have HF := Lib.hid hf
      clear h hb he hp hi hf e1 hn G hstart
      go_enter Tryd.func24, Tryd.ntmps24
      go_wp2_with (go_at_call 49; refine C.mono ?_; rintro e w' ⟨rfl, rfl⟩)
      refine C2.mono ?_
      rintro e w1 ⟨y, y1, y2, y3, y4, y5, y6, y7⟩
      rw [HN.out] at y4
      simp only [numEnd] at y4
      subst y4
      have G1 := HG.out.below (below_one y7 HG.out.size (HH.out.low b HH.out.mem))
      have yg := HH.out.grow HG.out.size _ y7.size y6 rfl
      have C3 := bad_ok G1 yg (x.pos : Int)
      have YF := Lib.hid (And.intro y1 y2)
      have HU := Lib.hid y7
      clear y1 y2 y3 y5 y6 y7 G1 yg
      go_wp2_with fail
      refine C3.mono ?_
      rintro e w2 ⟨rfl, h1, h2⟩
      have A := HH.out.again HG.out.size HU.out h1 h2
      have A1 := A.1.anypos (x := { x with f := some (3, some (x.pos : Int)) }) (by rw [← YF.out.2]; unfold RdD.fail; split <;> rfl) (by unfold RdD.fail; rw [if_pos YF.out.1]) (by simp)
      have FIN := Lib.hid (And.intro A1 A.2)
      clear A A1 h1 h2
      go_wp2
      go_ret
      exact ⟨rfl, FIN.out⟩
  · rw [show x.f.isNone = false from by cases h : x.f <;> simp_all] at C
    have e1 : x.var = (0, x) := by unfold RdD.var; rw [if_neg hf]
    rw [e1]
    have HS := Lib.hid hstart
    clear h hb he hp hi hf e1 G hstart
    go_enter Tryd.func24, Tryd.ntmps24
    go_wp2_with (go_at_call 49; refine C.mono ?_; rintro e w' ⟨rfl, rfl⟩)
    go_ret
    exact ⟨rfl, HS.out, Upd.refl _ _⟩
theorem newReader_ok (s : ByteArray) (w : World) : Calls Tryd.prog 23 #[.string s] w fun e w' => e = .returned (.pointer (some ⟨w.heap.size, 0, none⟩)) ∧ w' = w.alloc (.cells #[.string s, .int .i64 0, .nilIface, .bool true] 62) := by
  go_enter Tryd.func23, Tryd.ntmps23
  go_wp2
  go_ret
  exact ⟨rfl, rfl⟩
theorem newReader_is (s : ByteArray) (hs : s.size ≤ 9223372036854775807) (w : World) (B : Nat) (hB : B ≤ w.heap.size) (se : Nat → Addr) : Reader B se (w.alloc (.cells #[.string s, .int .i64 0, .nilIface, .bool true] 62)) (one w.heap.size) w.heap.size ⟨s, 0, none⟩ where
  ex := ⟨.nilIface, 0, blk_alloc w _, Nat.zero_le _, fun _ => rfl, rfl, fun p hp => by cases hp⟩
  sz := hs
  mem := rfl
  low k hk := by cases hk; exact hB
  lt k hk := by cases hk; simp
end Go.Proofs.YtkabomkikbdigaaDoor
