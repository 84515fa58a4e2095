/- codec.Reader: Var, Text, Fixed, NewReader by contracts. codec.Reader: Text, Fixed, Hash by contracts. codec.Reader: Fixed, Hash by contracts. -/
import Derived.Test.YtkdhjighomnooaaDoorReader3
namespace Go.Proofs.YtkdhjighomnooaaDoor
open Go.RowKit Go.Lib


/-- Behind a fault the place does not matter. -/
theorem Reader.anypos {B b : Nat} {se : Nat → Addr} {w : World} {S : Nat → Prop} {x y : RdD} (h : Reader B se w S b y) (hs : y.s = x.s) (hf : y.f = x.f) (hx : x.f ≠ none) : Reader B se w S b x where
  ex := by
    obtain ⟨fv, a, h1, h2, h3, h4, h5⟩ := h.ex
    exact ⟨fv, a, by rw [← hs]; exact h1, by rw [← hs]; exact h2, fun e => absurd e hx, by rw [← hf]; exact h4, h5⟩
  sz := by rw [← hs]; exact h.sz
  mem := h.mem
  low := h.low
  lt := h.lt
/-- Two calls, one behind the other. -/
theorem Reader.again {B b : Nat} {se : Nat → Addr} {w w1 w2 : World} {S : Nat → Prop} {x y : RdD} (h : Reader B se w S b x) (hB : B ≤ w.heap.size) (u1 : Upd (one b) w w1) (h2 : Reader B se w2 (plus (plus S w.heap.size w1.heap.size) w1.heap.size w2.heap.size) b y) (u2 : Upd (one b) w1 w2) :
    Reader B se w2 (plus S w.heap.size w2.heap.size) b y ∧ Upd (one b) w w2 :=
  ⟨h2.weaken (fun k hk => plus_plus u1.size u2.size k hk) (fun k hk => ⟨hk.elim (h.low k) (fun hk => by omega), hk.elim (fun hk => Nat.lt_of_lt_of_le (h.lt k hk) (Nat.le_trans u1.size u2.size)) (fun hk => hk.2)⟩), u1.trans u2⟩
theorem Reader.start {B b : Nat} {se : Nat → Addr} {w : World} {S : Nat → Prop} {x : RdD} (h : Reader B se w S b x) : Reader B se w (plus S w.heap.size w.heap.size) b x :=
  h.weaken (fun k hk => .inl hk) (fun k hk => ⟨hk.elim (h.low k) (fun hk => by omega), hk.elim (h.lt k) (fun hk => by omega)⟩)

/-- The next number. -/
def RdD.var (x : RdD) : Nat × RdD :=
  if x.f = none then match numB x.rest with
    | some (n, k) => (n, { x with pos := x.pos + k })
    | none => (0, { x with f := some (3, some (x.pos : Int)) })
  else (0, x)
theorem below_one {B b : Nat} {w w' : World} (u : Upd (one b) w w') (hB : B ≤ w.heap.size) (hb : B ≤ b) : Below B w w' := u.below hB (fun k hk => by cases hk; exact hb)
set_option maxHeartbeats 1000000 in
theorem var_ok {B b : Nat} {se : Nat → Addr} {w : World} {S : Nat → Prop} {x : RdD} (G : Genv B se w) (h : Reader B se w S b x) :
    Calls Tryd.prog 44 #[.pointer (some ⟨b, 0, none⟩)] w fun e w' => e = .returned (.int .u64 x.var.1) ∧ Reader B se w' (plus S w.heap.size w'.heap.size) b x.var.2 ∧ Upd (one b) w w' := by
  have C := ready_ok h
  have hstart := h.start
  obtain ⟨fv, a, hb, ha, hp, he, hi⟩ := h.ex
  have c1 := cell_of_blk hb 1
  by_cases hf : x.f = none
  · rw [hf] at C
    have hap := hp hf
    subst hap
    have C2 := number_ok h hf ha
    have HH := Lib.hid h
    have HG := Lib.hid G
    cases hn : numB x.rest with
    | some p =>
      obtain ⟨n, k⟩ := p
      have e1 : x.var = (n, { x with pos := x.pos + k }) := by unfold RdD.var; rw [if_pos hf, hn]
      rw [e1]
      have HN := Lib.hid hn
      have HF := Lib.hid hf
      clear h hb he hp hi hf e1 hn G hstart
      go_enter Tryd.func44, Tryd.ntmps44
      go_wp2_with (go_at_call 59; refine C.mono ?_; rintro e w' ⟨rfl, rfl⟩)
      refine C2.mono ?_
      rintro e w1 ⟨y, y1, y2, y3, y4, y5, y6, y7⟩
      rw [HN.out] at y4
      simp only [numEnd] at y4
      subst y4
      have hy := y5 n k HN.out
      have fin : Reader B se w1 S b { x with pos := x.pos + k } := by
        have ey : y = { x with pos := x.pos + k } := by cases y; simp_all [HF.out]
        rw [← ey]; exact y6
      have FIN := Lib.hid (HH.out.grow HG.out.size _ y7.size fin rfl)
      have HU := Lib.hid y7
      clear y1 y2 y3 y5 y6 y7 hy fin
      go_wp2
      go_ret
      exact ⟨rfl, FIN.out, HU.out⟩
    | none =>
      have e1 : x.var = (0, { x with f := some (3, some (x.pos : Int)) }) := by unfold RdD.var; rw [if_pos hf, hn]
      rw [e1]
      have HN := Lib.hid hn
      have HF := Lib.hid hf
      clear h hb he hp hi hf e1 hn G hstart
      go_enter Tryd.func44, Tryd.ntmps44
      go_wp2_with (go_at_call 59; refine C.mono ?_; rintro e w' ⟨rfl, rfl⟩)
      refine C2.mono ?_
      rintro e w1 ⟨y, y1, y2, y3, y4, y5, y6, y7⟩
      rw [HN.out] at y4
      simp only [numEnd] at y4
      subst y4
      have G1 := HG.out.below (below_one y7 HG.out.size (HH.out.low b HH.out.mem))
      have yg := HH.out.grow HG.out.size _ y7.size y6 rfl
      have C3 := bad_ok G1 yg (x.pos : Int)
      have YF := Lib.hid (And.intro y1 y2)
      have HU := Lib.hid y7
      clear y1 y2 y3 y5 y6 y7 G1 yg
      go_wp2_with fail
      refine C3.mono ?_
      rintro e w2 ⟨rfl, h1, h2⟩
      have A := HH.out.again HG.out.size HU.out h1 h2
      have A1 := A.1.anypos (x := { x with f := some (3, some (x.pos : Int)) }) (by rw [← YF.out.2]; unfold RdD.fail; split <;> rfl) (by unfold RdD.fail; rw [if_pos YF.out.1]) (by simp)
      have FIN := Lib.hid (And.intro A1 A.2)
      clear A A1 h1 h2
      go_wp2
      go_ret
      exact ⟨rfl, FIN.out⟩
  · rw [show x.f.isNone = false from by cases h : x.f <;> simp_all] at C
    have e1 : x.var = (0, x) := by unfold RdD.var; rw [if_neg hf]
    rw [e1]
    have HS := Lib.hid hstart
    clear h hb he hp hi hf e1 G hstart
    go_enter Tryd.func44, Tryd.ntmps44
    go_wp2_with (go_at_call 59; refine C.mono ?_; rintro e w' ⟨rfl, rfl⟩)
    go_ret
    exact ⟨rfl, HS.out, Upd.refl _ _⟩
theorem newReader_ok (s : ByteArray) (w : World) : Calls Tryd.prog 41 #[.string s] w fun e w' => e = .returned (.pointer (some ⟨w.heap.size, 0, none⟩)) ∧ w' = w.alloc (.cells #[.string s, .int .i64 0, .nilIface, .bool true] 114) := by
  go_enter Tryd.func41, Tryd.ntmps41
  go_wp2
  go_ret
  exact ⟨rfl, rfl⟩
theorem newReader_is (s : ByteArray) (hs : s.size ≤ 9223372036854775807) (w : World) (B : Nat) (hB : B ≤ w.heap.size) (se : Nat → Addr) : Reader B se (w.alloc (.cells #[.string s, .int .i64 0, .nilIface, .bool true] 114)) (one w.heap.size) w.heap.size ⟨s, 0, none⟩ where
  ex := ⟨.nilIface, 0, blk_alloc w _, Nat.zero_le _, fun _ => rfl, rfl, fun p hp => by cases hp⟩
  sz := hs
  mem := rfl
  low k hk := by cases hk; exact hB
  lt k hk := by cases hk; simp

/-- The next text, of at most so many bytes. -/
def RdD.text (x : RdD) (most : Int) : List UInt8 × RdD :=
  if most < 0 then ([], x.fail (some (2, none))) else
  if x.f ≠ none then ([], x) else
  if x.var.2.f ≠ none then ([], x.var.2) else
  if most < (x.var.1 : Int) then ([], x.var.2.fail (some (4, none))) else x.var.2.take x.var.1 x.pos
theorem fail_isNone (x : RdD) (e : EV) (h : e ≠ none) : (x.fail e).f.isNone = false := by
  unfold RdD.fail
  split
  · cases e <;> simp_all
  · cases hf : x.f <;> simp_all
theorem sv_in (se : Nat → Addr) (k : Nat) (S : Nat → Prop) : ErrIn (sv se k) S := fun p hp => by simp [sv] at hp
theorem numGo_lt (f : Nat) (first : Bool) (l : List UInt8) (n k : Nat) (h : numGo (f + 1) first l = some (n, k)) : n < 2 ^ (7 * f + 1) ∧ 1 ≤ k ∧ k ≤ l.length := by
  induction f generalizing first l n k with
  | zero =>
    cases l with
    | nil => simp [numGo] at h
    | cons c l =>
      unfold numGo at h
      split at h
      · cases h
      · rename_i hb
        split at h
        · cases h
          exact ⟨by rcases Nat.lt_or_ge 1 c.toNat with h1 | h1; · exact absurd (.inl ⟨rfl, h1⟩) hb
                    simp; omega, by omega, by simp⟩
        · simp [numGo] at h
  | succ f ih =>
    cases l with
    | nil => simp [numGo] at h
    | cons c l =>
      rw [numGo] at h
      split at h
      · cases h
      · split at h
        · cases h
          have : (2 : Nat) ^ 8 ≤ 2 ^ (7 * (f + 1) + 1) := Nat.pow_le_pow_right (by omega) (by omega)
          exact ⟨by have e : (2 : Nat) ^ 8 = 256 := rfl; omega, by omega, by simp⟩
        · cases hn : numGo (f + 1) false l with
          | none => rw [hn] at h; cases h
          | some p =>
            obtain ⟨m, q⟩ := p
            rw [hn] at h
            simp only [Option.map_some, Option.some.injEq, Prod.mk.injEq] at h
            obtain ⟨rfl, rfl⟩ := h
            have := ih false l m q hn
            refine ⟨?_, by omega, by simp; omega⟩
            rw [show 7 * (f + 1) + 1 = (7 * f + 1) + 7 from by omega, Nat.pow_add]
            have e : (2 : Nat) ^ 7 = 128 := rfl
            omega
theorem var_lt (x : RdD) : x.var.1 < 18446744073709551616 := by
  unfold RdD.var
  split
  · cases hn : numB x.rest with
    | none => simp
    | some p => obtain ⟨n, k⟩ := p; exact (numGo_lt 9 true x.rest n k hn).1
  · simp
theorem var_pos (x : RdD) (h : x.var.2.f = none) (hx : x.f = none) (hp : x.pos ≤ x.s.size) : x.var.2.pos ≤ x.s.size ∧ x.var.2.s = x.s := by
  unfold RdD.var at *
  rw [if_pos hx] at *
  cases hn : numB x.rest with
  | none => rw [hn] at h; simp at h
  | some p =>
    obtain ⟨n, k⟩ := p
    have := (numGo_lt 9 true x.rest n k hn).2.2
    have e : x.s.data.size = x.s.size := rfl
    simp [RdD.rest] at this
    exact ⟨by simp; omega, rfl⟩

set_option maxRecDepth 4000 in
set_option maxHeartbeats 1000000 in
theorem text_ok {B b : Nat} {se : Nat → Addr} {w : World} {S : Nat → Prop} {x : RdD} (G : Genv B se w) (h : Reader B se w S b x) (most : Int) (hm : most ≤ 9223372036854775807) :
    Calls Tryd.prog 45 #[.pointer (some ⟨b, 0, none⟩), .int .i64 most] w fun e w' => e = .returned (.string (str (x.text most).1)) ∧ Reader B se w' (plus S w.heap.size w'.heap.size) b (x.text most).2 ∧ Upd (one b) w w' := by
  have HG := Lib.hid G
  have HH := Lib.hid h
  have g2 := G.cell 2 (by decide) (by decide)
  have g4 := G.cell 4 (by decide) (by decide)
  by_cases hneg : most < 0
  · have e1 : x.text most = ([], x.fail (some (2, none))) := by unfold RdD.text; rw [if_pos hneg]
    rw [e1]
    have C := fail_ok h (sv se 2) (some (2, none)) ⟨by omega, by omega, rfl⟩ (by simp) (sv_in _ _ _)
    simp only [gno] at g2
    have hno := fail_isNone x (some (2, none)) (by simp)
    have HN := Lib.hid hno
    clear h e1 G g4 hno
    go_enter Tryd.func45, Tryd.ntmps45
    go_wp2_with fail
    refine C.mono ?_
    rintro e w1 ⟨rfl, h1, h2⟩
    have C2 := ready_ok h1
    rw [HN.out] at C2
    have H1 := Lib.hid (HH.out.grow HG.out.size _ h2.size h1 rfl)
    have H2 := Lib.hid h2
    clear h1 h2 C
    go_wp2_with (go_at_call 59; refine C2.mono ?_; rintro e w' ⟨rfl, rfl⟩)
    go_ret
    exact ⟨rfl, H1.out, H2.out⟩
  · have C := ready_ok h
    by_cases hf : x.f = none
    · rw [hf] at C
      obtain ⟨fv, a, hb, ha, hp, he, hi⟩ := h.ex
      have c1 := cell_of_blk hb 1
      have hap := hp hf
      subst hap
      have C2 := var_ok G h
      have hvl : x.var.1 < 18446744073709551616 := var_lt x
      have ht : x.text most = (if x.var.2.f ≠ none then ([], x.var.2) else if most < (x.var.1 : Int) then ([], x.var.2.fail (some (4, none))) else x.var.2.take x.var.1 x.pos) := by
        unfold RdD.text; rw [if_neg hneg, if_neg (by simp [hf])]
      simp only [gno] at g4
      by_cases hvf : x.var.2.f = none
      · rw [if_neg (by simp [hvf])] at ht
        by_cases hbig : most < (x.var.1 : Int)
        · rw [if_pos hbig] at ht
          rw [ht]
          have hno := fail_isNone x.var.2 (some (4, none)) (by simp)
          have HN := Lib.hid hno
          have HNF := Lib.hid hvf
          clear h hb he hp hi hf ht hvf hno G g2
          generalize x.var = v at *
          go_enter Tryd.func45, Tryd.ntmps45
          go_wp2_with (go_at_call 59; refine C.mono ?_; rintro e w' ⟨rfl, rfl⟩)
          refine C2.mono ?_
          rintro e w1 ⟨rfl, h1, h2⟩
          have G1 := HG.out.below (below_one h2 HG.out.size (HH.out.low b HH.out.mem))
          have k4 := G1.cell 4 (by decide) (by decide)
          simp only [gno] at k4
          have C3 := fail_ok h1 (sv se 4) (some (4, none)) ⟨by omega, by omega, rfl⟩ (by simp) (sv_in _ _ _)
          have H1 := Lib.hid h1
          have H2 := Lib.hid h2
          have HG1 := Lib.hid G1
          clear h1 h2 G1 C C2
          go_wp2_with fail
          refine C3.mono ?_
          rintro e w2 ⟨rfl, h3, h4⟩
          have C4 := ready_ok h3
          rw [HN.out] at C4
          have A := Lib.hid (HH.out.again HG.out.size H2.out (H1.out.grow HG1.out.size _ h4.size h3 rfl) h4)
          clear h3 h4 C3
          go_wp2_with (go_at_call 59; refine C4.mono ?_; rintro e w' ⟨rfl, rfl⟩)
          go_ret
          exact ⟨rfl, A.out⟩
        · rw [if_neg hbig] at ht
          rw [ht]
          have hle : (x.var.1 : Int) ≤ most := by omega
          have HNF := Lib.hid hvf
          clear h hb he hp hi hf ht hvf G g2 g4
          generalize x.var = v at *
          go_enter Tryd.func45, Tryd.ntmps45
          go_wp2_with (go_at_call 59; refine C.mono ?_; rintro e w' ⟨rfl, rfl⟩)
          refine C2.mono ?_
          rintro e w1 ⟨rfl, h1, h2⟩
          have G1 := HG.out.below (below_one h2 HG.out.size (HH.out.low b HH.out.mem))
          have C3 := ready_ok h1
          rw [HNF.out] at C3
          have C4 := take_ok G1 h1 v.1 (x.pos : Int) (by omega)
          have H1 := Lib.hid h1
          have H2 := Lib.hid h2
          clear h1 h2 G1 C C2
          go_wp2_with (go_at_call 59; refine C3.mono ?_; rintro e w' ⟨rfl, rfl⟩)
          refine C4.mono ?_
          rintro e w2 ⟨rfl, h3, h4⟩
          have A := Lib.hid (HH.out.again HG.out.size H2.out h3 h4)
          clear h3 h4
          go_wp2
          go_ret
          exact ⟨rfl, A.out⟩
      · rw [if_pos hvf] at ht
        rw [ht]
        have hz : x.var.1 = 0 := by
          unfold RdD.var at hvf ⊢
          rw [if_pos hf] at *
          cases hn : numB x.rest with
          | none => rfl
          | some p => rw [hn] at hvf; exact absurd hf hvf
        rw [hz] at C2
        have HNF := Lib.hid (show x.var.2.f.isNone = false from by cases h : x.var.2.f <;> simp_all)
        clear h hb he hp hi hf ht hvf G g2 g4 hz hvl
        generalize x.var.2 = v at *
        go_enter Tryd.func45, Tryd.ntmps45
        go_wp2_with (go_at_call 59; refine C.mono ?_; rintro e w' ⟨rfl, rfl⟩)
        refine C2.mono ?_
        rintro e w1 ⟨rfl, h1, h2⟩
        have C3 := ready_ok h1
        rw [HNF.out] at C3
        have H1 := Lib.hid h1
        have H2 := Lib.hid h2
        clear h1 h2 C C2
        go_wp2_with (go_at_call 59; refine C3.mono ?_; rintro e w' ⟨rfl, rfl⟩)
        go_ret
        exact ⟨rfl, H1.out, H2.out⟩
    · rw [show x.f.isNone = false from by cases h : x.f <;> simp_all] at C
      have e1 : x.text most = ([], x) := by unfold RdD.text; rw [if_neg hneg, if_pos hf]
      rw [e1]
      have HS := Lib.hid h.start
      clear h hf e1 G g2 g4
      go_enter Tryd.func45, Tryd.ntmps45
      go_wp2_with (go_at_call 59; refine C.mono ?_; rintro e w' ⟨rfl, rfl⟩)
      go_ret
      exact ⟨rfl, HS.out, Upd.refl _ _⟩

/-- A number, the highest byte first. -/
def beNum (l : List UInt8) : Nat := l.foldl (fun n c => n * 256 + c.toNat) 0
theorem beNum_snoc (l : List UInt8) (c : UInt8) : beNum (l ++ [c]) = beNum l * 256 + c.toNat := by simp [beNum, List.foldl_append]
theorem beNum_lt (l : List UInt8) : beNum l < 256 ^ l.length := by
  have key : ∀ (l : List UInt8) (a : Nat), l.foldl (fun n c => n * 256 + c.toNat) a < (a + 1) * 256 ^ l.length := by
    intro l
    induction l with
    | nil => intro a; simp
    | cons c l ih =>
      intro a
      have h1 := ih (a * 256 + c.toNat)
      have h2 := c.toNat_lt
      rw [List.foldl_cons, List.length_cons, Nat.pow_succ]
      refine Nat.lt_of_lt_of_le h1 ?_
      rw [Nat.mul_comm (256 ^ l.length) 256, ← Nat.mul_assoc]
      exact Nat.mul_le_mul_right _ (by omega)
  unfold beNum
  simpa using key l 0
theorem conv_bytes (l : List UInt8) (w : World) : ∃ cap w', (convert 9 60 (.string (str l))).run Tryd.prog w = .ok (.slice (some ⟨w.heap.size, 0, none⟩) l.length cap) w' ∧ Ext w w' ∧ w.heap.size < w'.heap.size ∧
    ∀ j c, l[j]? = some c → w'.cell? ⟨w.heap.size, j, none⟩ = some (u8v c) := by
  have e := run_bytes_of_string (P := Tryd.prog) w 9 60 5 (str l) Tryd.underlying9 Tryd.underlying60 Tryd.underlying5
  rw [str_size] at e
  refine ⟨_, _, e, ((Upd.refl _ _).drew).alloc _, by simp, fun j c hj => ?_⟩
  have hb := blk_alloc w.drew (.cells (bytesRow (str l) (grownCap w l.length 0 5)) 5 ((bytesRow (str l) (grownCap w l.length 0 5)).size, (bytesRow (str l) (grownCap w l.length 0 5)).size + 1))
  have hlt : j < l.length := (List.getElem?_eq_some_iff.1 hj).1
  rw [show w.heap.size = w.drew.heap.size from rfl, cell_of_blk hb]
  have hc : l[j] = c := (List.getElem?_eq_some_iff.1 hj).2
  simp [bytesRow, Array.getElem?_append, hlt, hc]
theorem or_low (a c : Nat) (hc : c < 256) (h : 256 * a + c < 18446744073709551616) : bits .or .u64 ((256 * a : Nat) : Int) (c : Int) = ((256 * a + c : Nat) : Int) := by
  have e := Nat.two_pow_add_eq_or_of_lt (i := 8) (b := c) (by omega) a
  have p8 : (2 : Nat) ^ 8 = 256 := rfl
  rw [p8] at e
  have b1 : (BitVec.ofInt IntKind.u64.bits (c : Int)).toNat = c := by
    rw [BitVec.toNat_ofInt]; simp only [IntKind.bits]; omega
  have b2 : (BitVec.ofInt IntKind.u64.bits ((256 * a : Nat) : Int)).toNat = 256 * a := by
    rw [BitVec.toNat_ofInt]; simp only [IntKind.bits]; omega
  unfold bits
  simp only [BitVec.toNat_or, b1, b2]
  rw [← e]
  exact IntWalk.u64_in _ (by omega)
def RdD.fixed (x : RdD) (width : Int) : Nat × RdD :=
  if width < 1 ∨ 8 < width then (0, x.fail (some (2, none))) else
  if x.f ≠ none then (0, x) else (beNum (x.take width.toNat x.pos).1, (x.take width.toNat x.pos).2)
set_option maxRecDepth 4000 in
set_option maxHeartbeats 1000000 in
theorem fixed_mid {B b : Nat} {se : Nat → Addr} {w : World} {S : Nat → Prop} {x : RdD} (G : Genv B se w) (h : Reader B se w S b x) (k : Nat) (hk : 1 ≤ k) (hk2 : k ≤ 8) (hf : x.f = none) :
    Calls Tryd.prog 42 #[.pointer (some ⟨b, 0, none⟩), .int .i64 k] w fun e w' => e = .returned (.int .u64 (x.fixed k).1) ∧ Reader B se w' (plus S w.heap.size w'.heap.size) b (x.fixed k).2 ∧ Upd (one b) w w' := by
  have HG := Lib.hid G
  have HH := Lib.hid h
  have C := ready_ok h
  rw [hf] at C
  obtain ⟨fv, a, hb, ha, hp, he, hi⟩ := h.ex
  have c1 := cell_of_blk hb 1
  have hap := hp hf
  subst hap
  have C2 := take_ok G h k (x.pos : Int) (by omega)
  have d1 : decide ((k : Int) < 1) = false := by simp; omega
  have d2 : decide (8 < (k : Int)) = false := by simp; omega
  have e1 : x.fixed k = (beNum (x.take k x.pos).1, (x.take k x.pos).2) := by
    unfold RdD.fixed; rw [if_neg (by omega), if_neg (by simp [hf]), Int.toNat_natCast]
  rw [e1]
  clear h hb he hp hi hf e1 G
  have hlen : (x.take k x.pos).1.length ≤ 8 := by
    unfold RdD.take; split
    · exact Nat.le_trans (List.length_take_le _ _) hk2
    · simp
  generalize x.take k x.pos = t at *
  go_enter Tryd.func42, Tryd.ntmps42
  go_wp2_with (go_at_call 59; refine C.mono ?_; rintro e w' ⟨rfl, rfl⟩)
  refine C2.mono ?_
  rintro e w1 ⟨rfl, h1, h2⟩
  obtain ⟨cap, w2, hrun, hX, hsz2, hcells⟩ := conv_bytes t.1 w1
  have HX := Lib.hid hX
  have HCE := Lib.hid hcells
  have H1 := Lib.hid h1
  have H2 := Lib.hid h2
  have HL := Lib.hid hlen
  have hle8 : t.1.length ≤ 9223372036854775807 := by omega
  clear hX hcells h1 h2 C C2 hlen
  go_wp2_with fail
  clear hrun
  go_loopw [5, 29] (fun nv iv wr => ∃ (j : Nat), iv = .int .i64 j ∧ j ≤ t.1.length ∧ nv = .int .u64 (beNum (t.1.take j)) ∧ wr = w2) (fun _ iv _ => t.1.length - (intOf iv).toNat)
  case atStart => exact ⟨0, rfl, by omega, rfl, rfl⟩
  case round =>
    obtain ⟨j, rfl, hj, rfl, rfl⟩ := hrel
    by_cases hlt : j < t.1.length
    · have hcl := HCE.out j t.1[j] (by simp [hlt])
      have htk : t.1.take (j + 1) = t.1.take j ++ [t.1[j]] := by rw [List.take_succ_eq_append_getElem hlt]
      have hb1 := beNum_lt (t.1.take (j + 1))
      have hs1 := beNum_snoc (t.1.take j) t.1[j]
      rw [← htk] at hs1
      have hlen8 : (t.1.take (j + 1)).length ≤ 8 := Nat.le_trans (by rw [List.length_take]; exact Nat.min_le_right _ _) HL.out
      have h64 : beNum (t.1.take (j + 1)) < 18446744073709551616 := by
        have : (256 : Nat) ^ (t.1.take (j + 1)).length ≤ 256 ^ 8 := Nat.pow_le_pow_right (by omega) hlen8
        have e : (256 : Nat) ^ 8 = 18446744073709551616 := rfl
        omega
      have hc := t.1[j].toNat_lt
      have nv : bits .or .u64 (IntKind.u64.wrap ((beNum (t.1.take j) : Int) * 256)) (IntKind.u64.wrap (t.1[j].toNat : Int)) = (beNum (t.1.take (j + 1)) : Int) := by
        rw [IntWalk.u64_in ((beNum (t.1.take j) : Int) * 256) (by omega), IntWalk.u64_in (t.1[j].toNat : Int) (by omega), show (beNum (t.1.take j) : Int) * 256 = ((256 * beNum (t.1.take j) : Nat) : Int) from by omega, or_low _ _ hc (by omega)]
        omega
      have NV := Lib.hid nv
      clear htk hb1 hs1 hlen8 h64 hc nv
      go_wp2_with fail
      exact ⟨⟨j + 1, by simp, by omega, by rw [NV.out], trivial⟩, by simp [intOf]; omega⟩
    · obtain rfl : j = t.1.length := by omega
      have hs := HX.out.size
      have fin : Reader B se wr (plus S w.heap.size wr.heap.size) b t.2 := (H1.out.ext HX.out).weaken (fun k hk => hk.imp id (fun hk => ⟨hk.1, Nat.lt_of_lt_of_le hk.2 hs⟩)) (fun k hk => ⟨hk.elim (HH.out.low k) (fun hk => by have := HG.out.size; omega), hk.elim (fun hk => by have := HH.out.lt k hk; have := H2.out.size; omega) (fun hk => hk.2)⟩)
      have FIN := Lib.hid fin
      clear fin hs
      go_wp2_with fail
      go_ret
      exact ⟨by simp, FIN.out, H2.out.thenExt HX.out⟩

theorem fixed_ok {B b : Nat} {se : Nat → Addr} {w : World} {S : Nat → Prop} {x : RdD} (G : Genv B se w) (h : Reader B se w S b x) (k : Int) :
    Calls Tryd.prog 42 #[.pointer (some ⟨b, 0, none⟩), .int .i64 k] w fun e w' => e = .returned (.int .u64 (x.fixed k).1) ∧ Reader B se w' (plus S w.heap.size w'.heap.size) b (x.fixed k).2 ∧ Upd (one b) w w' := by
  have HG := Lib.hid G
  have HH := Lib.hid h
  have g2 := G.cell 2 (by decide) (by decide)
  simp only [gno] at g2
  by_cases hbad : k < 1 ∨ 8 < k
  · have e1 : x.fixed k = (0, x.fail (some (2, none))) := by unfold RdD.fixed; rw [if_pos hbad]
    rw [e1]
    have C := fail_ok h (sv se 2) (some (2, none)) ⟨by omega, by omega, rfl⟩ (by simp) (sv_in _ _ _)
    have HN := Lib.hid (fail_isNone x (some (2, none)) (by simp))
    have hh : ((decide (k < 1) = true) ∨ (decide (k < 1) = false ∧ decide (8 < k) = true)) := by
      by_cases h : k < 1
      · exact .inl (by simpa using h)
      · exact .inr ⟨by simpa using h, by simp; omega⟩
    clear h e1 G hbad
    rcases hh with h1 | ⟨h1, h2⟩
    all_goals
      go_enter Tryd.func42, Tryd.ntmps42
      go_wp2_with fail
      refine C.mono ?_
      rintro e w1 ⟨rfl, h1, h2⟩
      have C2 := ready_ok h1
      rw [HN.out] at C2
      have H1 := Lib.hid (HH.out.grow HG.out.size _ h2.size h1 rfl)
      have H2 := Lib.hid h2
      clear h1 h2 C
      go_wp2_with (go_at_call 59; refine C2.mono ?_; rintro e w' ⟨rfl, rfl⟩)
      go_ret
      exact ⟨rfl, H1.out, H2.out⟩
  · obtain ⟨n, rfl⟩ : ∃ n : Nat, k = n := ⟨k.toNat, by omega⟩
    by_cases hf : x.f = none
    · exact fixed_mid G h n (by omega) (by omega) hf
    · have C := ready_ok h
      rw [show x.f.isNone = false from by cases h : x.f <;> simp_all] at C
      have e1 : x.fixed n = (0, x) := by unfold RdD.fixed; rw [if_neg hbad, if_pos hf]
      rw [e1]
      have HS := Lib.hid h.start
      have d1 : decide ((n : Int) < 1) = false := by simp; omega
      have d2 : decide (8 < (n : Int)) = false := by simp; omega
      clear h hf e1 G g2 hbad
      go_enter Tryd.func42, Tryd.ntmps42
      go_wp2_with (go_at_call 59; refine C.mono ?_; rintro e w' ⟨rfl, rfl⟩)
      go_ret
      exact ⟨rfl, HS.out, Upd.refl _ _⟩
end Go.Proofs.YtkdhjighomnooaaDoor
