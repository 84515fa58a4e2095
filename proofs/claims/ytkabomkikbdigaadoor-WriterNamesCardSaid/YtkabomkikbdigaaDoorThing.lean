/- The statements' Thing; put and form by contracts. -/
import Derived.Test.YtkabomkikbdigaaDoorRefw2
import Derived.Test.YtkabomkikbdigaaDoorAgg
namespace Go.Proofs.YtkabomkikbdigaaDoor
open Go.RowKit Go.Lib

structure ThingD where
  who : Int
  kind : Int
  n : Nat
  wd : Int
  t : ByteArray
  h : List UInt8
structure ThingD.Ok (x : ThingD) : Prop where
  who1 : -9223372036854775808 ≤ x.who
  who2 : x.who ≤ 9223372036854775807
  kind1 : -9223372036854775808 ≤ x.kind
  kind2 : x.kind ≤ 9223372036854775807
  n : x.n < 18446744073709551616
  wd1 : -9223372036854775808 ≤ x.wd
  wd2 : x.wd ≤ 9223372036854775807
  t : x.t.size ≤ 9223372036854775807
  h : x.h.length = 32
def thingCells (x : ThingD) : List Value := .int .i64 x.who :: .int .i64 x.kind :: .int .u64 x.n :: .int .i64 x.wd :: .string x.t :: x.h.map u8v
theorem thing_size : (Tryd.prog.info? 36).map (·.size) = some 37 := by kernel_rfl
theorem hash_size : (Tryd.prog.info? 34).map (·.size) = some 32 := by kernel_rfl
theorem thingCells_len (x : ThingD) (h : x.h.length = 32) : (thingCells x).length = 37 := by simp [thingCells, h]
/-- The cells of a Thing in memory. -/
theorem thing_cells {w : World} {b : Nat} {x : ThingD} (h : w.heap[b]? = some (.cells (thingCells x).toArray 36 (0, 0))) :
    w.cell? ⟨b, 0, none⟩ = some (.int .i64 x.who) ∧ w.cell? ⟨b, 1, none⟩ = some (.int .i64 x.kind) ∧ w.cell? ⟨b, 2, none⟩ = some (.int .u64 x.n) ∧ w.cell? ⟨b, 3, none⟩ = some (.int .i64 x.wd) ∧ w.cell? ⟨b, 4, none⟩ = some (.string x.t) ∧
      ∀ j v, (x.h.map u8v)[j]? = some v → w.cell? ⟨b, 5 + j, none⟩ = some v :=
  ⟨cell_of_blk h 0, cell_of_blk h 1, cell_of_blk h 2, cell_of_blk h 3, cell_of_blk h 4, fun j v hv => by
    rw [cell_of_blk h, List.getElem?_toArray, show 5 + j = j + 5 from by omega]; exact hv⟩

/-- A thing's form by the document, and what is wrong with it. -/
def fits (x : ThingD) : Bool := decide (1 ≤ x.wd ∧ x.wd ≤ 8) && decide (x.n / 2 ^ (8 * x.wd.toNat) = 0)
def formB (x : ThingD) : List UInt8 := if x.kind % 4 = 0 then (if fits x then fixB x.wd.toNat x.n else []) else if x.kind % 4 = 1 then varB x.n else if x.kind % 4 = 2 then varB x.t.size ++ x.t.data.toList else x.h
def formE (x : ThingD) : EV := if x.kind % 4 = 0 ∧ fits x = false then some (2, none) else none

/-- Fixed of a writer that is there, whatever the width. -/
theorem wfixed_any {B b : Nat} {w : World} {S : Nat → Prop} {xs : List UInt8} {se : Nat → Addr} (G : Genv B se w) (h : Writer B w S b xs) (x : ThingD) (hx : x.Ok) (hk : x.kind % 4 = 0) (hl : xs.length + 8 ≤ 1099511627776) :
    Calls Tryd.prog 30 #[.pointer (some ⟨b, 0, none⟩), .int .u64 x.n, .int .i64 x.wd] w fun e w' => ∃ v, e = .returned v ∧ ErrIs se w' v (formE x) ∧ Writer B w' (plus S w.heap.size w'.heap.size) b (xs ++ formB x) ∧ Upd S w w' := by
  have h1 : w.cell? ⟨b, 1, none⟩ = some (.bool true) := by obtain ⟨v, hb, _⟩ := h.ex; exact cell_of_blk hb 1
  have hw0 : Writer B w (plus S w.heap.size w.heap.size) b xs := h.weaken (fun k hk => .inl hk) (fun k hk => ⟨hk.elim (h.low k) (fun hk => by omega), hk.elim (h.lt k) (fun hk => by omega)⟩)
  by_cases hb : 1 ≤ x.wd ∧ x.wd ≤ 8
  · obtain ⟨k, hkk⟩ : ∃ k : Nat, x.wd = k := ⟨x.wd.toNat, by omega⟩
    by_cases hn : x.n / 2 ^ (8 * k) = 0
    · have hf : fits x = true := by simp [fits, hkk, hn]; omega
      have e1 : formB x = fixB k x.n := by simp [formB, hk, hf, hkk]
      have e2 : formE x = none := by simp [formE, hf]
      rw [e1, e2, hkk]
      exact (wfixed_ok h x.n k hx.n (by omega) (by omega) (fun _ => hn) G.size hl).mono fun e w' ⟨a, c, d⟩ => ⟨_, a, rfl, c, d⟩
    · have hf : fits x = false := by simp [fits, hkk, hn]
      have e1 : formB x = [] := by simp [formB, hk, hf]
      have e2 : formE x = some (2, none) := by simp [formE, hf, hk]
      rw [e1, e2, hkk, List.append_nil]
      have hk8 : k < 8 := by
        rcases Nat.lt_or_ge k 8 with h | h
        · exact h
        · have hk8 : k = 8 := by omega
          subst hk8
          exact absurd (Nat.div_eq_of_lt hx.n) hn
      refine (wfixed_big x.n k b w G h1 (by omega) hk8 hn hx.n).mono ?_
      rintro e w' ⟨rfl, rfl⟩
      exact ⟨_, rfl, ⟨by omega, by omega, rfl⟩, hw0, Upd.refl _ _⟩
  · have hf : fits x = false := by simp [fits]; omega
    have e1 : formB x = [] := by simp [formB, hk, hf]
    have e2 : formE x = some (2, none) := by simp [formE, hf, hk]
    rw [e1, e2, List.append_nil]
    refine (wfixed_bad x.n x.wd b w G h1 (by omega)).mono ?_
    rintro e w' ⟨rfl, rfl⟩
    exact ⟨_, rfl, ⟨by omega, by omega, rfl⟩, hw0, Upd.refl _ _⟩
theorem formB_len (x : ThingD) (hx : x.Ok) : (formB x).length ≤ 32 + x.t.size := by
  have h1 := varN_len 10 x.n
  have h2 := varN_len 10 x.t.size
  have h3 : x.t.data.toList.length = x.t.size := by rw [Array.length_toList]; rfl
  have h4 := hx.h
  unfold formB varB
  split
  · split
    · rename_i hf
      simp only [fits, Bool.and_eq_true, decide_eq_true_eq] at hf
      rw [fixB_len]; omega
    · simp
  · split
    · omega
    · split
      · rw [List.length_append]; omega
      · omega

/-- The four kinds. -/
theorem kinds (x : ThingD) : x.kind % 4 = 0 ∨ x.kind % 4 = 1 ∨ x.kind % 4 = 2 ∨ x.kind % 4 = 3 := by omega

set_option maxRecDepth 8000 in
set_option maxHeartbeats 1000000 in
theorem putT_ok {B b : Nat} {w : World} {S : Nat → Prop} {xs : List UInt8} {se : Nat → Addr} (G : Genv B se w) (h : Writer B w S b xs) (x : ThingD) (hx : x.Ok) (ht : x.t.size ≤ 1048576) (hl : xs.length + 1048676 ≤ 1099511627776) :
    Calls Tryd.prog 17 #[.pointer (some ⟨b, 0, none⟩), .agg (thingCells x).toArray] w fun e w' => ∃ v, e = .returned v ∧ ErrIs se w' v (formE x) ∧ Writer B w' (plus S w.heap.size w'.heap.size) b (xs ++ formB x) ∧ Upd S w w' := by
  have X := (Upd.refl none' w).alloc (.cells (thingCells x).toArray 36)
  have hb := blk_alloc w (.cells (thingCells x).toArray 36)
  obtain ⟨c0, c1, c2, c3, c4, c5⟩ := thing_cells hb
  have hW := h.upd X (fun _ _ hk => hk)
  have GW := G.ext X
  have R := round_any x.kind (w.alloc (.cells (thingCells x).toArray 36)) hx.kind1 hx.kind2
  have fin : ∀ w', Upd S (w.alloc (.cells (thingCells x).toArray 36)) w' → Writer B w' (plus S (w.alloc (.cells (thingCells x).toArray 36)).heap.size w'.heap.size) b (xs ++ formB x) → Writer B w' (plus S w.heap.size w'.heap.size) b (xs ++ formB x) ∧ Upd S w w' := fun w' u1 h1 =>
    ⟨h1.weaken (fun k hk => hk.imp id (fun hk => ⟨by simp at hk; omega, hk.2⟩)) (fun k hk => ⟨hk.elim (h.low k) (fun hk => by have := G.size; omega), hk.elim (fun hk => Nat.lt_of_lt_of_le (h.lt k hk) (Nat.le_trans X.size u1.size)) (fun hk => hk.2)⟩), (Upd.ext X S).then u1 (fun _ _ hk => hk)⟩
  have FIN := Lib.hid fin
  have hB := G.size
  have hB1 : B ≤ (w.alloc (.cells (thingCells x).toArray 36)).heap.size := GW.size
  have hsz : (thingCells x).toArray.size = 37 := by rw [List.size_toArray]; exact thingCells_len x hx.h
  rcases kinds x with hk | hk | hk | hk
  · have C := wfixed_any GW hW x hx hk (by omega)
    rw [hk] at R
    clear hk h G X hb fin hW GW hB1 hx hB c5
    go_enter Tryd.func17, Tryd.ntmps17
    go_wp2_with fail
    refine R.mono ?_
    rintro e w1 ⟨rfl, rfl⟩
    go_wp2_with fail
    refine C.mono ?_
    rintro e w1 ⟨v, rfl, hE, hW1, hU1⟩
    have A := FIN.out _ hU1 hW1
    have HE := Lib.hid hE
    clear hE hW1 hU1
    go_wp2_with fail
    go_ret
    exact ⟨v, rfl, HE.out, A⟩
  · have ef : formB x = varB x.n := by simp [formB, hk]
    have ee : formE x = none := by simp [formE, hk]
    rw [ee]
    rw [ef] at FIN ⊢
    have C := wvar_ok hW x.n hx.n hB1 (by omega)
    clear ef ee
    rw [hk] at R
    clear hk h G X hb fin hW GW hB1 hx hB c5
    go_enter Tryd.func17, Tryd.ntmps17
    go_wp2_with fail
    refine R.mono ?_
    rintro e w1 ⟨rfl, rfl⟩
    go_wp2_with fail
    refine C.mono ?_
    rintro e w1 ⟨rfl, hW1, hU1⟩
    have A := FIN.out _ hU1 hW1
    clear hW1 hU1
    go_wp2_with fail
    go_ret
    exact ⟨_, rfl, rfl, A⟩
  · have ef : formB x = varB x.t.size ++ x.t.data.toList := by simp [formB, hk]
    have ee : formE x = none := by simp [formE, hk]
    rw [ee]
    rw [ef] at FIN ⊢
    have C := wtext_ok hW x.t hB1 (by omega)
    clear ef ee
    rw [hk] at R
    clear hk h G X hb fin hW GW hB1 hx hB c5
    go_enter Tryd.func17, Tryd.ntmps17
    go_wp2_with fail
    refine R.mono ?_
    rintro e w1 ⟨rfl, rfl⟩
    go_wp2_with fail
    refine C.mono ?_
    rintro e w1 ⟨rfl, hW1, hU1⟩
    have A := FIN.out _ hU1 hW1
    clear hW1 hU1
    go_wp2_with fail
    go_ret
    exact ⟨_, rfl, rfl, A⟩
  · have ef : formB x = x.h := by simp [formB, hk]
    have ee : formE x = none := by simp [formE, hk]
    rw [ee]
    rw [ef] at FIN ⊢
    have C := whash_ok hW x.h hx.h hB1 (by omega)
    have HS : Hid ((Tryd.prog.info? 34).map (·.size) = some (x.h.map u8v).length) := by rw [List.length_map, hx.h]; exact hash_size
    clear ef ee
    rw [hk] at R
    clear hk h G X hb fin hW GW hB1 hx hB
    go_enter Tryd.func17, Tryd.ntmps17
    go_wp2_with fail
    refine R.mono ?_
    rintro e w1 ⟨rfl, rfl⟩
    go_wp2_with (refine wpList_loadAgg rfl 34 _ rfl _ 5 rfl (x.h.map u8v) Tryd.underlying34 rfl HS.out c5 ?_)
    refine C.mono ?_
    rintro e w1 ⟨rfl, hW1, hU1⟩
    have A := FIN.out _ hU1 hW1
    clear hW1 hU1
    go_wp2_with fail
    go_ret
    exact ⟨_, rfl, rfl, A⟩
end Go.Proofs.YtkabomkikbdigaaDoor
