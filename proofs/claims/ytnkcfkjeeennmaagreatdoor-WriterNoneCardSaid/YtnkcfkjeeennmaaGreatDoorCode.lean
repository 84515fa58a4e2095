/- The statements' Code, At, Is, IsAt, Same of an error: by contracts. codec.Writer: its calls by contracts. A writer's footprint S: the blocks that it may write. Rows of the call's own: plain lemmas on memory. Structs and arrays by value: a load of one, a store of one, in a list of operations. Nothing of the program. Structs and arrays stored whole; hashes by value. -/
import Derived.Test.YtnkcfkjeeennmaaGreatDoorErr
import Derived.Test.YtnkcfkjeeennmaaGreatDoorBase
namespace Go.Proofs.YtnkcfkjeeennmaaGreatDoor
open Go.RowKit Go.Lib


/-- The block of the sentinel of that number. -/
def gno : Nat → Nat
  | 1 => 0 | 2 => 3 | 3 => 5 | 4 => 2 | 5 => 4 | 6 => 6 | 7 => 7 | 8 => 1
  | 9 => 8 | 10 => 9 | 11 => 10 | 12 => 11 | 13 => 12 | 14 => 13 | 15 => 14 | _ => 15
/-- The value of the sentinel of that number. -/
abbrev sv (se : Nat → Addr) (k : Nat) : Value := .iface 329 (.pointer (some (se k)))
/-- What the package-level variables hold, below block B. -/
structure Genv (B : Nat) (se : Nat → Addr) (w : World) : Prop where
  cell : ∀ k, 1 ≤ k → k ≤ 16 → w.cell? ⟨gno k, 0, none⟩ = some (sv se k)
  row : ∀ k, 1 ≤ k → k ≤ 16 → ∃ c t, w.heap[(se k).block]? = some (.cells c t (0, 0))
  inj : ∀ i j, 1 ≤ i → i ≤ 16 → 1 ≤ j → j ≤ 16 → i ≠ j → se i ≠ se j
  et : w.cell? ⟨16, 0, none⟩ = some (.iface 289 (.agg #[.pointer (some ⟨25, 38, none⟩)]))
  low : ∀ k, 1 ≤ k → k ≤ 16 → gno k < B ∧ (se k).block < B
  lowt : 16 < B
  size : B ≤ w.heap.size
theorem Genv.below {B : Nat} {se : Nat → Addr} {w w' : World} (h : Genv B se w) (k : Below B w w') : Genv B se w' where
  cell i h1 h2 := (k.cell (p := ⟨gno i, 0, none⟩) (h.low i h1 h2).1).trans (h.cell i h1 h2)
  row i h1 h2 := by obtain ⟨c, t, hr⟩ := h.row i h1 h2; exact ⟨c, t, (k.block _ (h.low i h1 h2).2).trans hr⟩
  inj := h.inj
  et := (k.cell (p := ⟨16, 0, none⟩) h.lowt).trans h.et
  low := h.low
  lowt := h.lowt
  size := Nat.le_trans h.size k.size
theorem Genv.ext {B : Nat} {se : Nat → Addr} {w w' : World} (h : Genv B se w) (k : Ext w w') : Genv B se w' := h.below (Ext.below k h.size)

/-- An error as the document has it: none; a number; a number and a place. -/
abbrev EV := Option (Nat × Option Int)
def ErrIs (se : Nat → Addr) (w : World) (v : Value) : EV → Prop
  | none => v = .nilIface
  | some (k, none) => 1 ≤ k ∧ k ≤ 16 ∧ v = sv se k
  | some (k, some n) => 1 ≤ k ∧ k ≤ 16 ∧ ∃ b, v = .iface 187 (.pointer (some ⟨b, 0, none⟩)) ∧ w.heap[b]? = some (.cells #[sv se k, .int .i64 n] 191 (0, 0))
theorem ErrIs.ext {se : Nat → Addr} {w w' : World} {v : Value} {x : EV} (h : ErrIs se w v x) (k : Ext w w') : ErrIs se w' v x := by
  match x, h with
  | none, h => exact h
  | some (_, none), h => exact h
  | some (_, some _), ⟨h1, h2, b, h3, h4⟩ => exact ⟨h1, h2, b, h3, Ext.blk k h4⟩
/-- Its block, where it has one. -/
def ErrIn (v : Value) (S : Nat → Prop) : Prop := ∀ b, v = .iface 187 (.pointer (some ⟨b, 0, none⟩)) → S b
theorem ErrIs.upd {se : Nat → Addr} {w w' : World} {v : Value} {x : EV} {S : Nat → Prop} (h : ErrIs se w v x) (k : Upd S w w') (hn : ErrIn v (fun b => ¬ S b)) : ErrIs se w' v x := by
  match x, h with
  | none, h => exact h
  | some (_, none), h => exact h
  | some (_, some _), ⟨h1, h2, b, h3, h4⟩ => exact ⟨h1, h2, b, h3, k.blk h4 (hn b h3)⟩
def codeOf : EV → Int
  | none => 0
  | some (k, _) => k
def placeOf : EV → Int
  | some (_, some n) => n
  | _ => 0
def placed : EV → Bool
  | some (_, some _) => true
  | _ => false

/-- errors.Is at a sentinel, of an error that is there. -/
theorem is_any {B : Nat} {se : Nat → Addr} {w : World} (G : Genv B se w) {v : Value} {k : Nat} {p : Option Int} (hv : ErrIs se w v (some (k, p))) (j : Nat) (h1 : 1 ≤ j) (h2 : j ≤ 16) :
    Calls Tryz.prog 106 #[v, sv se j] w fun e w' => e = .returned (.bool (decide (k = j))) ∧ w = w' := by
  match p, hv with
  | none, ⟨k1, k2, e⟩ =>
    subst e
    by_cases hkj : k = j
    · subst hkj; simpa using is_same (se k) w
    · obtain ⟨c, t, hr⟩ := G.row k k1 k2
      obtain ⟨c', t', hr'⟩ := G.row j h1 h2
      simpa [hkj] using is_other (se k) (se j) c c' t t' w (G.inj k j k1 k2 h1 h2 hkj) hr hr'
  | some n, ⟨k1, k2, b, e, hb⟩ =>
    subst e
    have h0 : w.cell? ⟨b, 0, none⟩ = some (sv se k) := cell_of_blk hb 0
    by_cases hkj : k = j
    · subst hkj; simpa using is_fault_same b (se k) w h0
    · obtain ⟨c, t, hr⟩ := G.row k k1 k2
      obtain ⟨c', t', hr'⟩ := G.row j h1 h2
      simpa [hkj] using is_fault_other b (se k) (se j) c c' t t' w h0 (G.inj k j k1 k2 h1 h2 hkj) hr hr'

theorem code_nil (w : World) : Calls Tryz.prog 55 #[.nilIface] w fun e w' => e = .returned (.int .i64 0) ∧ Ext w w' := by
  go_enter Tryz.func55, Tryz.ntmps55
  go_wp2
  go_ret
  exact ⟨rfl, Upd.refl _ _⟩
/-- The row of the sixteen. -/
abbrev sents (se : Nat → Addr) : Array Value := #[sv se 1, sv se 2, sv se 3, sv se 4, sv se 5, sv se 6, sv se 7, sv se 8, sv se 9, sv se 10, sv se 11, sv se 12, sv se 13, sv se 14, sv se 15, sv se 16]
theorem sents_at (se : Nat → Addr) (i : Nat) (h : i < 16) : (sents se)[i]? = some (sv se (i + 1)) := by
  match i, h with
  | 0, _ | 1, _ | 2, _ | 3, _ | 4, _ | 5, _ | 6, _ | 7, _ | 8, _ | 9, _ | 10, _ | 11, _ | 12, _ | 13, _ | 14, _ | 15, _ => rfl
  | n + 16, h => exact absurd h (by omega)
/-- What n holds behind k rounds. -/
def nAt (c k : Nat) : Int := if c ≤ k then c else -1

set_option maxHeartbeats 1000000 in
theorem code_some {B : Nat} {se : Nat → Addr} {w : World} (G : Genv B se w) {t : Nat} {x : Value} {k : Nat} {p : Option Int} (hv : ErrIs se w (.iface t x) (some (k, p))) :
    Calls Tryz.prog 55 #[.iface t x] w fun e w' => e = .returned (.int .i64 k) ∧ Ext w w' := by
  have c1 := G.cell 1 (by decide) (by decide)
  have c2 := G.cell 2 (by decide) (by decide)
  have c3 := G.cell 3 (by decide) (by decide)
  have c4 := G.cell 4 (by decide) (by decide)
  have c5 := G.cell 5 (by decide) (by decide)
  have c6 := G.cell 6 (by decide) (by decide)
  have c7 := G.cell 7 (by decide) (by decide)
  have c8 := G.cell 8 (by decide) (by decide)
  have c9 := G.cell 9 (by decide) (by decide)
  have c10 := G.cell 10 (by decide) (by decide)
  have c11 := G.cell 11 (by decide) (by decide)
  have c12 := G.cell 12 (by decide) (by decide)
  have c13 := G.cell 13 (by decide) (by decide)
  have c14 := G.cell 14 (by decide) (by decide)
  have c15 := G.cell 15 (by decide) (by decide)
  have c16 := G.cell 16 (by decide) (by decide)
  simp only [gno] at c1 c2 c3 c4 c5 c6 c7 c8 c9 c10 c11 c12 c13 c14 c15 c16
  have hk : 1 ≤ k ∧ k ≤ 16 := by match p, hv with | none, h => exact ⟨h.1, h.2.1⟩ | some _, h => exact ⟨h.1, h.2.1⟩
  obtain ⟨hk1, hk2⟩ := hk
  have HV := Lib.hid hv
  have HG := Lib.hid G
  clear hv G
  go_enter Tryz.func55, Tryz.ntmps55
  go_wp2
  clear c1 c2 c3 c4 c5 c6 c7 c8 c9 c10 c11 c12 c13 c14 c15 c16
  go_loop [4, 5] (fun n i => ∃ j : Nat, j ≤ 16 ∧ i = .int .i64 j ∧ n = .int .i64 (nAt k j)) (fun _ i => 16 - (intOf i).toNat)
  case atStart => exact ⟨0, by omega, rfl, by simp [nAt]; omega⟩
  case round =>
    obtain ⟨j, hj, rfl, rfl⟩ := hrel
    by_cases hlt : j < 16
    · have hc : ((w.alloc (.cells (sents se) 192))).cell? ⟨w.heap.size, j, none⟩ = some (sv se (j + 1)) := by
        rw [cell_of_blk (blk_alloc w _)]; exact sents_at se j hlt
      have X := (Upd.refl none' w).alloc (.cells (sents se) 192)
      have C := is_any (HG.out.ext X) (HV.out.ext X) (j + 1) (by omega) (by omega)
      clear X
      by_cases hkj : k = j + 1
      · subst hkj
        have hn : nAt (j + 1) j = -1 := if_neg (by omega)
        go_wp2_with (go_at_call 106; refine C.mono ?_; rintro e w' ⟨rfl, rfl⟩)
        go_round
        case rel => exact ⟨j + 1, by omega, by go_num, by simp [nAt]⟩
        case measure => simp [intOf]; omega
      · go_wp2_with (go_at_call 106; refine C.mono ?_; rintro e w' ⟨rfl, rfl⟩)
        go_round
        case rel => exact ⟨j + 1, by omega, by go_num, by congr 1; unfold nAt; split <;> split <;> first | rfl | omega⟩
        case measure => simp [intOf]; omega
    · obtain rfl : j = 16 := by omega
      go_wp2
      go_ret
      exact ⟨by simp [nAt, hk2], (Upd.refl _ _).alloc _⟩

/-- Code, of whatever error. -/
theorem code_any {B : Nat} {se : Nat → Addr} {w : World} (G : Genv B se w) {v : Value} {x : EV} (hv : ErrIs se w v x) :
    Calls Tryz.prog 55 #[v] w fun e w' => e = .returned (.int .i64 (codeOf x)) ∧ Ext w w' := by
  match x, hv with
  | none, h => cases h; exact code_nil w
  | some (k, none), h => obtain ⟨h1, h2, e⟩ := h; subst e; exact code_some G (p := none) ⟨h1, h2, rfl⟩
  | some (k, some n), h => obtain ⟨h1, h2, b, e, hb⟩ := h; subst e; exact code_some G (p := some n) ⟨h1, h2, b, rfl, hb⟩

/-- At, of whatever error. -/
theorem at_any {B : Nat} {se : Nat → Addr} {w : World} (G : Genv B se w) {v : Value} {x : EV} (hv : ErrIs se w v x) :
    Calls Tryz.prog 54 #[v] w fun e w' => e = .returned (.tuple #[.int .i64 (placeOf x), .bool (placed x)]) ∧ Ext w w' := by
  match x, hv with
  | none, h =>
    cases h
    go_enter Tryz.func54, Tryz.ntmps54
    go_wp2_with (go_at_call 105; refine (as_nil _ _).mono ?_; rintro e w' ⟨rfl, rfl⟩)
    go_ret2
    exact ⟨rfl, (Upd.refl _ _).alloc _⟩
  | some (k, none), h =>
    obtain ⟨h1, h2, e⟩ := h
    subst e
    have X := (Upd.refl none' w).alloc (.cells #[.pointer none] 187)
    have C := as_miss (se k) ⟨w.heap.size, 0, none⟩ (.pointer none) (w.alloc (.cells #[.pointer none] 187)) (G.ext X).et (by simp)
    clear X G
    go_enter Tryz.func54, Tryz.ntmps54
    go_wp2_with (go_at_call 105; refine C.mono ?_; rintro e w' ⟨rfl, hX⟩)
    go_ret2
    exact ⟨rfl, ((Upd.refl _ _).alloc _).trans (hX.mono (fun _ _ h => h))⟩
  | some (k, some n), h =>
    obtain ⟨h1, h2, b, e, hb⟩ := h
    subst e
    have hlt := lt_of_blk hb
    have X := (Upd.refl none' w).alloc (.cells #[.pointer none] 187)
    have C : Calls Tryz.prog 105 #[.iface 187 (.pointer (some ⟨b, 0, none⟩)), .iface 189 (.pointer (some ⟨w.heap.size, 0, none⟩))] (w.alloc (.cells #[.pointer none] 187)) fun ev w' => ev = .returned (.bool true) ∧
        (w'.cell? ⟨w.heap.size, 0, none⟩ = some (.pointer (some ⟨b, 0, none⟩)) ∧ w'.cell? ⟨b, 1, none⟩ = some (.int .i64 n)) ∧ Ext w w' := by
      refine (as_hit ⟨b, 0, none⟩ ⟨w.heap.size, 0, none⟩ (.pointer none) (w.alloc (.cells #[.pointer none] 187)) (G.ext X).et (by simp) (by simp)).mono ?_
      rintro e w' ⟨rfl, rfl⟩
      have Y := (((X.alloc (.cells #[.pointer (some ⟨w.heap.size, 0, none⟩)] 189)).alloc (.cells #[.pointer (some ⟨25, 189, none⟩), .pointer (some ⟨(w.alloc (.cells #[.pointer none] 187)).heap.size, 0, none⟩), .int .u64 150] 237)).alloc (.cells #[.pointer (some ⟨25, 189, none⟩), .pointer (some ⟨(w.alloc (.cells #[.pointer none] 187)).heap.size, 0, none⟩), .int .u64 150] 237)).alloc (.cells #[.pointer (some ⟨b, 0, none⟩)] 187)
      have Z := Y.setCell (p := ⟨w.heap.size, 0, none⟩) (.inl (Nat.le_refl _)) (.pointer (some ⟨b, 0, none⟩))
      refine ⟨rfl, ⟨?_, ?_⟩, Z⟩
      · rw [cell_of_blk (blk_set (blk_alloc_lt (blk_alloc_lt (blk_alloc_lt (blk_alloc_lt (blk_alloc w (.cells #[.pointer none] 187)) _) _) _) _) 0 _)]
        rfl
      · rw [cell_of_blk (Ext.blk Z hb)]; rfl
    clear X G hb hv
    go_enter Tryz.func54, Tryz.ntmps54
    go_wp2_with (go_at_call 105; refine C.mono ?_; rintro e w' ⟨rfl, ⟨hc0, hc1⟩, hX⟩)
    go_ret2
    exact ⟨rfl, hX⟩

theorem is0_any {B : Nat} {se : Nat → Addr} {w : World} (G : Genv B se w) {v : Value} {x : EV} (hv : ErrIs se w v x) (c : Int) :
    Calls Tryz.prog 12 #[v, .int .i64 c] w fun e w' => e = .returned (.bool (codeOf x == c && (!placed x || placeOf x == 0))) ∧ Ext w w' := by
  have C1 := at_any G hv
  have C2 : ∀ w1, Ext w w1 → _ := fun w1 (h : Ext w w1) => code_any (G.ext h) (hv.ext h)
  have H2 := Lib.hid C2
  clear C2 G hv
  generalize hp : placed x = p at *
  generalize hq : placeOf x = q at *
  generalize hr : codeOf x = r at *
  clear hp hq hr
  cases h1 : (r == c) <;> cases p <;> cases h2 : (q == 0)
  all_goals
    go_enter Tryz.func12, Tryz.ntmps12
    go_wp2_with (first | (go_at_call 54; refine C1.mono ?_; rintro e w1 ⟨rfl, hX1⟩) | (go_at_call 55; refine (H2.out _ (by assumption)).mono ?_; rintro e w2 ⟨rfl, hX2⟩))
    go_ret
    exact ⟨by simp, Upd.trans (by assumption) (Upd.mono (by assumption) (fun _ _ h => h))⟩

/-- What IsAt answers. -/
def isAtB (x : EV) (c a : Int) : Bool := if c = 0 ∨ codeOf x ≠ c then c == 0 && decide (x = none) else placed x && placeOf x == a
theorem isAt_any {B : Nat} {se : Nat → Addr} {w : World} (G : Genv B se w) {v : Value} {x : EV} (hv : ErrIs se w v x) (c a : Int) :
    Calls Tryz.prog 83 #[v, .int .i64 c, .int .i64 a] w fun e w' => e = .returned (.bool (isAtB x c a)) ∧ Ext w w' := by
  have C1 : ∀ w1, Ext w w1 → _ := fun w1 (h : Ext w w1) => at_any (G.ext h) (hv.ext h)
  have C2 := code_any G hv
  have H1 := Lib.hid C1
  clear C1
  by_cases hc : c = 0
  · subst hc
    have hn : (v = .nilIface ∧ x = none) ∨ ((∃ t y, v = .iface t y) ∧ x ≠ none) := by
      match x, hv with
      | none, h => exact .inl ⟨h, rfl⟩
      | some (k, none), h => exact .inr ⟨⟨_, _, h.2.2⟩, by simp⟩
      | some (k, some n), h => obtain ⟨_, _, b, e, _⟩ := h; exact .inr ⟨⟨_, _, e⟩, by simp⟩
    clear G hv C2
    rcases hn with ⟨rfl, rfl⟩ | ⟨⟨t, y, rfl⟩, hx⟩
    · go_enter Tryz.func83, Tryz.ntmps83
      go_wp2
      go_ret
      exact ⟨by simp [isAtB], Upd.refl _ _⟩
    · have hb : isAtB x 0 a = false := by simp [isAtB, hx]
      rw [hb]
      clear hb hx
      go_enter Tryz.func83, Tryz.ntmps83
      go_wp2_with fail
      go_ret
      exact ⟨rfl, Upd.refl _ _⟩
  · have hcb : (c == 0) = false := by simpa using hc
    clear G hv
    unfold isAtB
    generalize hp : placed x = p at *
    generalize hq : placeOf x = q at *
    generalize hr : codeOf x = r at *
    clear hp hq hr
    by_cases h1 : r = c
    · subst h1
      rw [if_neg (by simp [hc])]
      clear hc
      cases p <;> cases h2 : (q == a)
      all_goals
        simp only [Bool.and_self, Bool.and_false, Bool.and_true]
        go_enter Tryz.func83, Tryz.ntmps83
        go_wp2_with (first | (go_at_call 55; refine C2.mono ?_; rintro e w1 ⟨rfl, hX1⟩) | (go_at_call 54; refine (H1.out _ (by assumption)).mono ?_; rintro e w2 ⟨rfl, hX2⟩))
        go_ret
        exact ⟨rfl, Upd.trans (by assumption) (Upd.mono (by assumption) (fun _ _ h => h))⟩
    · have h1b : (r != c) = true := by simpa using h1
      rw [if_pos (.inr h1), hcb, Bool.false_and]
      clear hc h1
      go_enter Tryz.func83, Tryz.ntmps83
      go_wp2_with (first | (go_at_call 55; refine C2.mono ?_; rintro e w1 ⟨rfl, hX1⟩))
      go_ret
      exact ⟨rfl, by assumption⟩

/-- What Same answers of an error, held against a number and a place. -/
def sameB (x : EV) (c a : Int) : Bool :=
  if a = -1 then codeOf x == c && (!placed x || placeOf x == 0) else isAtB x c a

/-- Same: is it that error and no other one, its place just as it is told? -/
theorem same_any {B : Nat} {se : Nat → Addr} {w : World} (G : Genv B se w) {v : Value} {x : EV} (hv : ErrIs se w v x) (c a : Int) :
    Calls Tryz.prog 24 #[v, .agg #[.int .i64 c, .int .i64 a]] w fun e w' => e = .returned (.bool (sameB x c a)) ∧ Ext w w' := by
  have X := (Upd.refl none' w).alloc (.cells #[.int .i64 c, .int .i64 a] 69)
  have C1 := is0_any (G.ext X) (hv.ext X) c
  have C2 := isAt_any (G.ext X) (hv.ext X) c a
  clear X G hv
  by_cases ha : a = -1
  · subst ha
    rw [show sameB x c (-1) = (codeOf x == c && (!placed x || placeOf x == 0)) from if_pos rfl]
    generalize (codeOf x == c && (!placed x || placeOf x == 0)) = bb at *
    go_enter Tryz.func24, Tryz.ntmps24
    go_wp2_with (first | (go_at_call 12; refine C1.mono ?_; rintro e w1 ⟨rfl, hX1⟩))
    go_ret
    exact ⟨rfl, ((Upd.refl _ _).alloc _).trans (Upd.mono (by assumption) (fun _ _ h => h))⟩
  · have hab : (a == -1) = false := by simpa using ha
    rw [show sameB x c a = isAtB x c a from if_neg ha]
    clear ha
    go_enter Tryz.func24, Tryz.ntmps24
    go_wp2_with (first | (go_at_call 83; refine C2.mono ?_; rintro e w1 ⟨rfl, hX1⟩))
    go_ret
    exact ⟨rfl, ((Upd.refl _ _).alloc _).trans (Upd.mono (by assumption) (fun _ _ h => h))⟩

abbrev u8v (c : UInt8) : Value := .int .u8 (c.toNat : Int)
theorem info_u8 : (Tryz.prog.info? 5).map (fun i => (i.zero, i.size, i.bytes)) = some (some (.int .u8 0), 1, 1) := by kernel_rfl
theorem ownsRow_upd {w w' : World} {T : Nat → Prop} {B e size n : Nat} {v : Value} {xs : List Value} (h : w.ownsRow B e size v n xs) (k : Upd T w w') (hT : ∀ g, v.ownBlock = some g → ¬ T g) : w'.ownsRow B e size v n xs := by
  refine ⟨h.1, ?_⟩
  rcases h.2 with hn | ⟨g, cap, cur, rfl, hb, hgg, rest⟩
  · exact .inl hn
  · exact .inr ⟨g, cap, cur, rfl, hb, k.blk hgg (hT g rfl), rest⟩
/-- S and what is new. -/
def plus (S : Nat → Prop) (n m : Nat) : Nat → Prop := fun k => S k ∨ (n ≤ k ∧ k < m)
/-- A value that an owned row has: a slice written out. -/
theorem own_form {w : World} {B e size n : Nat} {v : Value} {xs : List Value} (h : w.ownsRow B e size v n xs) : (v = .slice none 0 0 ∧ n = 0) ∨ ∃ g cap, v = .slice (some ⟨g, 0, none⟩) n cap ∧ B ≤ g := by
  rcases h.2 with h | ⟨g, cap, cur, h1, h2, _⟩
  · exact .inl h
  · exact .inr ⟨g, cap, h1, h2⟩

theorem rowT {w : World} {B e size n : Nat} {v : Value} {xs : List Value} (h : w.ownsRow B e size v n xs) {g : Nat} (hg : v.ownBlock = some g) : ∃ c, w.heap[g]? = some (.cells c e (0, 0)) := by
  rcases h.2 with ⟨rfl, _⟩ | ⟨g', cap, cur, rfl, _, hb, _⟩
  · cases hg
  · obtain rfl : g' = g := by simpa [Value.ownBlock] using hg
    exact ⟨_, hb⟩
theorem tyNe {w : World} {b c : Nat} {cs cs' : Array Value} {t t' : TypeId} {f f' : Nat × Nat} (h : w.heap[b]? = some (.cells cs t f)) (h' : w.heap[c]? = some (.cells cs' t' f')) (ht : t ≠ t') : b ≠ c := fun e => by
  rw [e, h'] at h
  simp only [Option.some.injEq, Obj.cells.injEq] at h
  exact ht h.2.1.symm
/-- A row lies in no block of another type. -/
theorem rowNe {w : World} {B e size n b : Nat} {v : Value} {xs : List Value} {cs : Array Value} {t : TypeId} {f : Nat × Nat} (h : w.ownsRow B e size v n xs) (hb : w.heap[b]? = some (.cells cs t f)) (ht : e ≠ t) : ∀ g, v.ownBlock = some g → g ≠ b := fun g hg => by
  obtain ⟨c, hc⟩ := rowT h hg
  exact tyNe hc hb ht
theorem ownLow {w : World} {B B' : Nat} {e : TypeId} {size n : Nat} {v : Value} {xs : List Value} (h : w.ownsRow B e size v n xs) (hB : B' ≤ B) : w.ownsRow B' e size v n xs := by
  refine ⟨h.1, ?_⟩
  rcases h.2 with h0 | ⟨g, cap, cur, hv, hb, rest⟩
  · exact .inl h0
  · exact .inr ⟨g, cap, cur, hv, Nat.le_trans hB hb, rest⟩
theorem u8_ones (l : List UInt8) : ∀ u ∈ l.map u8v, u.oneCell' = true := fun u hu => by obtain ⟨x, _, rfl⟩ := List.mem_map.1 hu; rfl
theorem CellsAt.upd {S : Nat → Prop} {w w' : World} {A : Option Addr} {cs : List Value} (h : CellsAt w A cs) (u : Upd S w w') (hS : ∀ ad, A = some ad → ¬ S ad.block) : CellsAt w' A cs := fun j v hv => by
  obtain ⟨ad, e, hc⟩ := h j v hv
  have hb : (ad.add j).block = ad.block := by unfold Addr.add; split <;> rfl
  refine ⟨ad, e, ?_⟩
  rw [Upd.cell u (lt_of_cell hc) (by rw [hb]; exact hS ad e)]
  exact hc
/-- A part of a slice's cells. -/
theorem CellsAt.drop {w : World} {g o : Nat} {cs : List Value} (h : CellsAt w (some ⟨g, o, none⟩) cs) (k : Nat) : CellsAt w (some ⟨g, o + k, none⟩) (cs.drop k) := fun j v hv => by
  rw [List.getElem?_drop] at hv
  obtain ⟨ad, e, hc⟩ := h (k + j) v hv
  obtain rfl := Option.some.inj e
  refine ⟨_, rfl, ?_⟩
  have e2 : (⟨g, o, none⟩ : Addr).add (k + j) = (⟨g, o + k, none⟩ : Addr).add j := by simp only [Addr.add_lit, Nat.add_assoc]
  rw [← e2]; exact hc
theorem CellsAt.take {w : World} {A : Option Addr} {cs : List Value} (h : CellsAt w A cs) (k : Nat) : CellsAt w A (cs.take k) := fun j v hv => by
  rw [List.getElem?_take] at hv
  split at hv
  · exact h j v hv
  · cases hv
theorem CellsAt.cell {w : World} {g o : Nat} {cs : List Value} (h : CellsAt w (some ⟨g, o, none⟩) cs) {j : Nat} {v : Value} (hj : cs[j]? = some v) : w.cell? ⟨g, o + j, none⟩ = some v := by
  obtain ⟨ad, e, hc⟩ := h j v hj
  obtain rfl := Option.some.inj e
  have e2 : (⟨g, o, none⟩ : Addr).add j = ⟨g, o + j, none⟩ := by simp only [Addr.add_lit]
  rw [← e2]; exact hc
theorem CellsAt.row {w : World} {B e n : Nat} {g c : Nat} {xs : List Value} (h : w.ownsRow B e 1 (.slice (some ⟨g, 0, none⟩) n c) n xs) : CellsAt w (some ⟨g, 0, none⟩) xs := fun j v hv => ⟨_, rfl, h.cells (g := g) rfl j v hv⟩
theorem own_cap {w : World} {B e size n g c : Nat} {xs : List Value} (h : w.ownsRow B e size (.slice (some ⟨g, 0, none⟩) n c) n xs) : n ≤ c := by
  rcases h.2 with ⟨hv, _⟩ | ⟨g', cap, cur, hv, _, _, hnc, _⟩
  · cases hv
  · simp only [Value.slice.injEq, true_and] at hv
    obtain ⟨_, rfl⟩ := hv
    exact hnc
/-- A row whose first n are kept. -/
theorem row_cut {w : World} {B e n m : Nat} {A : Option Addr} {c : Nat} {xs : List Value} (h : w.ownsRow B e 1 (.slice A n c) n xs) (hm : m ≤ n) : w.ownsRow B e 1 (.slice A m c) m (xs.take m) := by
  have hl := h.1
  refine ⟨by rw [List.length_take]; omega, ?_⟩
  rcases h.2 with ⟨hv, h0⟩ | ⟨g, cap, cur, hv, hb, hg, hnc, hcm, hcs, ht⟩
  · simp only [Value.slice.injEq] at hv
    obtain ⟨rfl, h1, rfl⟩ := hv
    left
    exact ⟨by simp; omega, by omega⟩
  · simp only [Value.slice.injEq, true_and] at hv
    obtain ⟨rfl, rfl⟩ := hv
    right
    refine ⟨g, c, cur, rfl, hb, hg, by omega, hcm, hcs, ?_⟩
    have e : xs.take m = (cur.toList.take (n * 1)).take m := by rw [← ht]
    rw [List.take_take] at e
    rw [e]
    congr 1
    omega

/-- Is it a struct or an array? -/
def aggD : TypeDesc → Bool | .struct _ | .array _ _ => true | _ => false
section
variable {P : Program} {w : World}
theorem run_isAgg (ty : TypeId) {d : TypeDesc} (hu : P.underlying ty = some d) (hd : aggD d = true) : (isAgg ty).run P w = .ok true w := by
  unfold isAgg
  rw [Sem.run_bind, run_underlying hu w]
  cases d <;> simp_all [aggD]
theorem run_loadVar_at (g off : Nat) (ty : TypeId) (vs : List Value) {d : TypeDesc} (hu : P.underlying ty = some d) (hd : aggD d = true) (hi : (P.info? ty).map (·.size) = some vs.length)
    (hc : ∀ j v, vs[j]? = some v → w.cell? ⟨g, off + j, none⟩ = some v) : (loadVar ty ⟨g, off, none⟩).run P w = .ok (.agg vs.toArray) w := by
  have hl : (loadCells ⟨g, off, none⟩ vs.length).run P w = .ok vs.toArray w :=
    run_loadCells_list (P := P) w ⟨g, off, none⟩ vs (fun j v hv => by
      have hadd : (⟨g, off, none⟩ : Addr).add j = ⟨g, off + j, none⟩ := by unfold Addr.add; split <;> simp_all
      rw [hadd]; exact hc j v hv)
  cases hq : P.info? ty with
  | none => simp [hq] at hi
  | some i =>
    have hs : i.size = vs.length := by simpa [hq] using hi
    simp [loadVar, Sem.run_bind, run_isAgg (w := w) ty hu hd, sizeOf, typeInfo, hq, hs, hl]
theorem wpList_loadAgg {ops : Array Oper} {rest : List Oper} {o : Oper} {a : Act} {Q : Exit → Act → World → Prop} (hgd : o.guard = none) (ty : TypeId) (x : Operand) (ho : o.op = .load ty x)
    (g off : Nat) (hx : a.eval x = .pointer (some ⟨g, off, none⟩)) (vs : List Value) {d : TypeDesc} (hu : P.underlying ty = some d) (hd : aggD d = true) (hi : (P.info? ty).map (·.size) = some vs.length)
    (hc : ∀ j v, vs[j]? = some v → w.cell? ⟨g, off + j, none⟩ = some v)
    (h : wpList P ops Q rest (a.put o.dst (.agg vs.toArray)) w) : wpList P ops Q (o :: rest) a w := by
  refine wpList_plain hgd fun _ hK => ?_
  unfold Oper.wp execOp
  simp only [ho, hx, Instr.loadAt, Instr.sureAddr, Sem.run_bind, Sem.run_pure, Result.andThen_ok, run_loadVar_at g off ty vs hu hd hi hc]
  exact hK _ _ h
/-- The row cs, vs laid over it from off on. -/
def over (cs : List Value) (off : Nat) (vs : List Value) : List Value := cs.take off ++ (vs ++ cs.drop (off + vs.length))
theorem over_all (cs vs : List Value) (h : cs.length = vs.length) : over cs 0 vs = vs := by simp [over, ← h]
theorem wpList_storeAgg {ops : Array Oper} {rest : List Oper} {o : Oper} {a : Act} {Q : Exit → Act → World → Prop} (hgd : o.guard = none) (ty : TypeId) (x y : Operand) (ho : o.op = .store ty x y)
    (g off : Nat) (hx : a.eval x = .pointer (some ⟨g, off, none⟩)) (vs : List Value) (hy : a.eval y = .agg vs.toArray) (hi : (P.info? ty).map (·.size) = some vs.length)
    (cs : List Value) (t : TypeId) (hg : w.heap[g]? = some (.cells cs.toArray t (0, 0))) (hfit : off + vs.length ≤ cs.length) (h1 : ∀ u ∈ vs, u.oneCell' = true)
    (h : wpList P ops Q rest (a.put o.dst undef) (w.setRow g (over cs off vs).toArray)) : wpList P ops Q (o :: rest) a w := by
  refine wpList_plain hgd fun _ hK => ?_
  have hst := run_storeCells_at P g off t vs 0 cs.toArray w hg (by simpa using hfit) h1
  cases hq : P.info? ty with
  | none => simp [hq] at hi
  | some i =>
    have hs : i.size = vs.length := by simpa [hq] using hi
    have hadd : (⟨g, off + 0, none⟩ : Addr) = ⟨g, off, none⟩ := rfl
    unfold Oper.wp execOp
    simp only [Nat.add_zero] at hst
    simp [ho, hx, hy, Instr.storeAt, Instr.sureAddr, storeVar, sizeOf, typeInfo, hq, hs, Value.cells, hst]
    exact hK _ _ h
end
theorem blk_setRow {w : World} {g : Nat} {cs : Array Value} {t : TypeId} {f : Nat × Nat} (h : w.heap[g]? = some (.cells cs t f)) (cs' : Array Value) : (w.setRow g cs').heap[g]? = some (.cells cs' t f) := setRow_heap w g cs cs' t f h
theorem blk_setRow_ne {w : World} {g k : Nat} {o : Obj} (h : w.heap[k]? = some o) (hne : k ≠ g) (cs' : Array Value) : (w.setRow g cs').heap[k]? = some o := (setRow_other w g k cs' hne).trans h
theorem Upd.setRow {S : Nat → Prop} {w w1 : World} (h : Upd S w w1) {g : Nat} (hp : w.heap.size ≤ g ∨ S g) (cs : Array Value) : Upd S w (w1.setRow g cs) :=
  ⟨h.os, h.tape, h.output, by have := h.size; simp; omega, fun k hk hn => by
    rw [setRow_other w1 g k cs (fun e => by subst e; exact hp.elim (fun h1 => by omega) hn)]; exact h.block k hk hn⟩
/-- A new variable that is stored into at once. -/
theorem setRow_alloc (w : World) (z cs : Array Value) (t : TypeId) (f : Nat × Nat) : (w.alloc (.cells z t f)).setRow w.heap.size cs = w.alloc (.cells cs t f) := by
  have e : ((w.heap.push (.cells z t f)).modify w.heap.size fun | .cells _ elem frozen => .cells cs elem frozen | o => o) = w.heap.push (.cells cs t f) := by
    apply Array.ext
    · simp
    · intro i h1 h2
      simp only [Array.getElem_modify, Array.getElem_push]
      by_cases hi : i < w.heap.size
      · simp [hi, Nat.ne_of_gt hi]
      · have : w.heap.size = i := by simp at h1; omega
        simp [this]
  show { w with heap := _ } = ({ w with heap := _ } : World)
  congr 1

section
variable {P : Program} {w : World}
theorem store_whole {ops : Array Oper} {rest : List Oper} {o : Oper} {a : Act} {Q : Exit → Act → World → Prop} (hgd : o.guard = none) (ty : TypeId) (x y : Operand) (ho : o.op = .store ty x y)
    (g : Nat) (hx : a.eval x = .pointer (some ⟨g, 0, none⟩)) (vs : List Value) (hy : a.eval y = .agg vs.toArray) (hi : (P.info? ty).map (·.size) = some vs.length)
    (cs : List Value) (t : TypeId) (hg : w.heap[g]? = some (.cells cs.toArray t (0, 0))) (hl : cs.length = vs.length) (h1 : ∀ u ∈ vs, u.oneCell' = true)
    (h : wpList P ops Q rest (a.put o.dst undef) (w.setRow g vs.toArray)) : wpList P ops Q (o :: rest) a w := by
  refine wpList_storeAgg hgd ty x y ho g 0 hx vs hy hi cs t hg (by omega) h1 ?_
  rw [over_all _ _ hl]
  exact h
/-- A struct or an array stored into a variable that is new. -/
theorem store_new {ops : Array Oper} {rest : List Oper} {o : Oper} {a : Act} {Q : Exit → Act → World → Prop} (hgd : o.guard = none) (ty : TypeId) (x y : Operand) (ho : o.op = .store ty x y)
    (z : Array Value) (t : TypeId) (hx : a.eval x = .pointer (some ⟨w.heap.size, 0, none⟩)) (vs : List Value) (hy : a.eval y = .agg vs.toArray) (hi : (P.info? ty).map (·.size) = some vs.length) (hz : z.size = vs.length) (h1 : ∀ u ∈ vs, u.oneCell' = true)
    (h : wpList P ops Q rest (a.put o.dst undef) (w.alloc (.cells vs.toArray t))) : wpList P ops Q (o :: rest) a (w.alloc (.cells z t)) := by
  refine wpList_storeAgg hgd ty x y ho w.heap.size 0 hx vs hy hi z.toList t (blk_alloc w _) (by simp [hz]) h1 ?_
  rw [over_all _ _ (by simpa using hz), setRow_alloc]
  exact h
end
theorem hash_size : (Tryz.prog.info? 30).map (·.size) = some 32 := by kernel_rfl
theorem hash_size32 (h : List UInt8) (hl : h.length = 32) : (Tryz.prog.info? 30).map (·.size) = some (h.map u8v).length := by rw [hash_size, List.length_map, hl]
abbrev zero32 : Array Value := #[.int .u8 0, .int .u8 0, .int .u8 0, .int .u8 0, .int .u8 0, .int .u8 0, .int .u8 0, .int .u8 0, .int .u8 0, .int .u8 0, .int .u8 0, .int .u8 0, .int .u8 0, .int .u8 0, .int .u8 0, .int .u8 0, .int .u8 0, .int .u8 0, .int .u8 0, .int .u8 0, .int .u8 0, .int .u8 0, .int .u8 0, .int .u8 0, .int .u8 0, .int .u8 0, .int .u8 0, .int .u8 0, .int .u8 0, .int .u8 0, .int .u8 0, .int .u8 0]
abbrev hashV (h : List UInt8) : Value := .agg (h.map u8v).toArray
theorem blk_cells {w : World} {g : Nat} {cs : List Value} {t : TypeId} {f : Nat × Nat} (h : w.heap[g]? = some (.cells cs.toArray t f)) : ∀ j v, cs[j]? = some v → w.cell? ⟨g, 0 + j, none⟩ = some v := fun j v hv => by
  rw [cell_of_blk h]; simpa using hv
end Go.Proofs.YtnkcfkjeeennmaaGreatDoor
