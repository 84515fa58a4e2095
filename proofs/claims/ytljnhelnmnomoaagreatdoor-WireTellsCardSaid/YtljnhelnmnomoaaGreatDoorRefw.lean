/- cartularyref02: the forms (Var, Text, Hash, Fixed) and the errors (Plain, Placed); round: by contracts. cartularyref02.Fixed by contracts; the statements' form and put. The statements' Thing; put and form by contracts. -/
import Derived.Test.YtljnhelnmnomoaaGreatDoorWriter4
import Derived.Test.YtljnhelnmnomoaaGreatDoorAgg
namespace Go.Proofs.YtljnhelnmnomoaaGreatDoor
open Go.RowKit Go.Lib


theorem plain_any (c : Int) (w : World) : Calls Tryz.prog 33 #[.int .i64 c] w fun e w' => e = .returned (.agg #[.int .i64 c, .int .i64 (if c = 0 then 0 else -1)]) ∧ Ext w w' := by
  by_cases hc : c = 0
  · subst hc
    go_enter Tryz.func33, Tryz.ntmps33
    go_wp2
    exact bodyPost_ret (v := .agg #[.int .i64 0, .int .i64 0]) (by simp [results, Tryz.results33, go_sem]) rfl ⟨rfl, by repeat (first | exact Upd.refl _ _ | apply Upd.alloc | refine Upd.setCell ?_ (.inl (Nat.le_refl _)) _)⟩
  · have hb : (c == 0) = false := by simpa using hc
    rw [if_neg hc]
    clear hc
    go_enter Tryz.func33, Tryz.ntmps33
    go_wp2
    exact bodyPost_ret (v := .agg #[.int .i64 c, .int .i64 (-1)]) (by simp [results, Tryz.results33, go_sem]) rfl ⟨rfl, by repeat (first | exact Upd.refl _ _ | apply Upd.alloc | refine Upd.setCell ?_ (.inl (Nat.le_refl _)) _)⟩
theorem placed_any (c n : Int) (w : World) : Calls Tryz.prog 42 #[.int .i64 c, .int .i64 n] w fun e w' => e = .returned (.agg #[.int .i64 c, .int .i64 n]) ∧ Ext w w' := by
  go_enter Tryz.func42, Tryz.ntmps42
  go_wp2
  exact bodyPost_ret (v := .agg #[.int .i64 c, .int .i64 n]) (by simp [results, Tryz.results42, go_sem]) rfl ⟨rfl, by repeat (first | exact Upd.refl _ _ | apply Upd.alloc | refine Upd.setCell ?_ (.inl (Nat.le_refl _)) _)⟩
set_option maxRecDepth 8000 in
/-- The reference's Var: the same bytes. -/
theorem rvar_any (n : Nat) (hn : n < 18446744073709551616) (w : World) : Calls Tryz.prog 35 #[.int .u64 n] w fun e w' => e = .returned (.string (str (varB n))) ∧ Ext w w' := by
  obtain ⟨i0, hi, hz0, hz1, hz2⟩ := info_parts info_u8
  go_enter Tryz.func35, Tryz.ntmps35
  go_wp2
  go_loopw [0, 3] (fun nv lv wr => ∃ (f m : Nat) (ys : List UInt8) (l : Value), nv = .int .u64 m ∧ l = lv ∧ (1 ≤ f ∧ m < 2 * 128 ^ (f - 1)) ∧ m < 18446744073709551616 ∧ ys.length + f = 10 ∧ varB n = ys ++ varN f m ∧ wr.ownsRow w.heap.size 5 1 l ys.length (ys.map u8v) ∧ Ext w wr) (fun nv _ _ => (intOf nv).toNat)
  case atStart => exact ⟨10, n, [], _, rfl, rfl, ⟨by omega, by simpa using hn⟩, hn, rfl, rfl, World.ownsRow_nil _ _ _ _, Upd.refl _ _⟩
  case round =>
    obtain ⟨f, m, ys, l, rfl, rfl, ⟨hf1, hm1⟩, hm, hf, hv, ho, hu⟩ := hrel
    obtain ⟨f, rfl⟩ : ∃ g, f = g + 1 := ⟨f - 1, by omega⟩
    simp only [Nat.add_sub_cancel] at hm1
    have HO := Lib.hid ho
    have HU := Lib.hid hu
    have hsz := hu.size
    have HF := Lib.hid hf
    have hyl : ys.length ≤ 9 := by omega
    have hlen : ys.length + 1 ≤ maxLen := by unfold maxLen; omega
    clear hf
    by_cases hlt : m ≤ 127
    · have hx : varB n = ys ++ [m.toUInt8] := by rw [hv]; unfold varN; rw [if_pos hlt]
      have HX := Lib.hid hx
      have hm8 : m.toUInt8.toNat = m := by simp; omega
      have HM := Lib.hid hm8
      have HOa := Lib.hid (ownsRow_upd ho ((Upd.refl none' wr).alloc (.cells #[.int .u8 m] 5)) (fun _ _ => id))
      have hBa : w.heap.size ≤ (wr.alloc (.cells #[.int .u8 m] 5)).heap.size := by simp; omega
      have HBa := Lib.hid hBa
      clear ho hu hv hx hm1 hm8 hBa hsz
      go_wp2_with (at_builtin; go_must (refine wpList_app rfl _ _ 93 rfl w.heap.size 5 i0 (.int .u8 0) 1 1 Tryz.underlying93 hi hz0 hz1 hz2 rfl (by decide) l ys.length (ys.map u8v) rfl HOa.out ⟨wr.heap.size, 0, none⟩ 1 1 [.int .u8 m] rfl rfl ?c1 ?c2 hlen ?c4 HBa.out ?_))
      case c1 => intro j u hu; exact cells_at (blk_alloc wr _) j u hu
      case c2 => intro u hu; simp at hu; subst hu; rfl
      case c4 => omega
      intro v' w1 hown' hg _
      have hown2 : w1.ownsRow w.heap.size 5 1 v' (varB n).length ((varB n).map u8v) := by
        rw [HX.out, List.length_append, List.map_append]
        have e1 : [m.toUInt8].map u8v = [.int .u8 (m : Int)] := by simp only [List.map_cons, List.map_nil, u8v, HM.out]
        rw [e1]; exact hown'
      have hs := run_str_own w1 hown2
      have hU1 := (HU.out.alloc (.cells #[.int .u8 m] 5)).grown hg (fun k hk => .inl (HOa.out.lt k hk).1)
      have form := own_form hown2
      have HU1 := Lib.hid hU1
      clear hown' hown2 hg hU1
      rcases form with ⟨rfl, _⟩ | ⟨g, cap, rfl, _⟩
      all_goals
        go_wp2
        go_ret
        exact ⟨rfl, HU1.out⟩
    · obtain ⟨g, rfl⟩ : ∃ g, f = g + 1 := ⟨f - 1, by cases f with
        | zero => simp at hm1; omega
        | succ g => omega⟩
      have hx : varB n = (ys ++ [(m % 128 + 128).toUInt8]) ++ varN (g + 1) (m / 128) := by rw [hv]; conv => lhs; unfold varN; rw [if_neg hlt]
                                                                                           simp
      have hm2 : m / 128 < 2 * 128 ^ g := by rw [Nat.pow_succ] at hm1; omega
      have HX := Lib.hid hx
      have HM := Lib.hid hm2
      have hm8 : (m % 128 + 128).toUInt8.toNat = 128 + m % 128 := by rw [Nat.toUInt8, UInt8.toNat_ofNat']; omega
      have HM8 := Lib.hid hm8
      have HOa := Lib.hid (ownsRow_upd ho ((Upd.refl none' wr).alloc (.cells #[.int .u8 (128 + (m : Int) % 128)] 5)) (fun _ _ => id))
      have hBa : w.heap.size ≤ (wr.alloc (.cells #[.int .u8 (128 + (m : Int) % 128)] 5)).heap.size := by simp; omega
      have HBa := Lib.hid hBa
      clear ho hu hv hx hm1 hm2 hm8 hBa hsz
      go_wp2_with (at_builtin; go_must (refine wpList_app rfl _ _ 93 rfl w.heap.size 5 i0 (.int .u8 0) 1 1 Tryz.underlying93 hi hz0 hz1 hz2 rfl (by decide) l ys.length (ys.map u8v) rfl HOa.out ⟨wr.heap.size, 0, none⟩ 1 1 [.int .u8 (128 + (m : Int) % 128)] rfl rfl ?c1 ?c2 hlen ?c4 HBa.out ?_))
      case c1 => intro j u hu; exact cells_at (blk_alloc wr _) j u hu
      case c2 => intro u hu; simp at hu; subst hu; rfl
      case c4 => omega
      intro v' w1 hown' hg _
      have hown2 : w1.ownsRow w.heap.size 5 1 v' (ys ++ [(m % 128 + 128).toUInt8]).length ((ys ++ [(m % 128 + 128).toUInt8]).map u8v) := by
        rw [List.length_append, List.map_append]
        have e1 : [(m % 128 + 128).toUInt8].map u8v = [.int .u8 (128 + (m : Int) % 128)] := by
          simp only [List.map_cons, List.map_nil, u8v, HM8.out]; congr 2
        rw [e1]; exact hown'
      have hU1 := (HU.out.alloc (.cells #[.int .u8 (128 + (m : Int) % 128)] 5)).grown hg (fun k hk => .inl (HOa.out.lt k hk).1)
      have HO2 := Lib.hid hown2
      have HU1 := Lib.hid hU1
      clear hown' hown2 hg hU1
      go_wp2_with fail
      refine ⟨⟨g + 1, m / 128, _, _, by simp, rfl, ⟨by omega, HM.out⟩, by omega, by have := HF.out; simp; omega, HX.out, HO2.out, HU1.out⟩, by simp [intOf]; try omega⟩

theorem rtext_any (s : ByteArray) (hs : s.size ≤ 140737488355328) (w : World) : Calls Tryz.prog 37 #[.string s] w fun e w' => e = .returned (.string (str (varB s.size ++ s.data.toList))) ∧ Ext w w' := by
  have C := rvar_any s.size (by omega) w
  have hsm : s.size ≤ 9223372036854775807 := by omega
  have he : str (varB s.size) ++ s = str (varB s.size ++ s.data.toList) := by
    apply ByteArray.ext; simp
  have hle : ¬ 9223372036854775807 < (varB s.size).length + s.size := by have := varN_len 10 s.size; unfold varB; omega
  rw [← he]
  clear hs he
  go_enter Tryz.func37, Tryz.ntmps37
  go_wp2_with fail
  refine C.mono ?_
  rintro e w1 ⟨rfl, hU⟩
  go_wp2_with fail
  go_ret
  exact ⟨rfl, hU⟩

/-- make([]byte, k). -/
theorem run_make_u8 (k : Nat) (hk : k ≤ 140737488355328) (u : World) : (Instr.makeSlice 93 (.int .i64 k) (.int .i64 k)).run Tryz.prog u = .ok (.slice (some ⟨u.heap.size, 0, none⟩) k k) (u.alloc (.cells (Array.replicate k (.int .u8 0)) 5)) := by
  obtain ⟨i0, hi, hz0, hz1, hz2⟩ := info_parts info_u8
  have h := run_make (P := Tryz.prog) u 93 5 i0 (.int .u8 0) Tryz.underlying93 hi hz0 .i64 .i64 (k : Int) (k : Int) (by omega) (Int.le_refl _) (by rw [hz2]; omega) (by omega)
  have e : madeCells #[Value.int .u8 0] k = Array.replicate k (.int .u8 0) := by
    apply Array.ext'
    rw [toList_madeCells_one]
    simp
  rw [hz1, Int.toNat_natCast, Nat.mul_one] at h
  rw [h]
  show Result.ok _ (u.alloc (.cells (madeCells #[Value.int .u8 0] k) 5)) = _
  rw [e]
theorem set_mid (g : Nat) (x : UInt8) (rest : List UInt8) (y : Value) (hy : y = u8v x) : (((List.replicate (g + 1) (0 : UInt8) ++ rest).map u8v).toArray).setIfInBounds g y = ((List.replicate g (0 : UInt8) ++ x :: rest).map u8v).toArray := by
  subst hy
  rw [List.setIfInBounds_toArray]
  congr 1
  induction g with
  | zero => simp
  | succ g ih => rw [List.replicate_succ, List.replicate_succ (n := g)]; simpa [List.replicate_succ] using ih
/-- What the loop of Fixed keeps. -/
def FixRel (w wr : World) (n k : Nat) (nv iv : Value) : Prop := ∃ (z : Int) (j d m : Nat), iv = .int .i64 z ∧ z = j - 1 ∧ nv = .int .u64 m ∧ j + d = k ∧ m = n / 2 ^ (8 * d) ∧
  wr.heap[w.heap.size + 1]? = some (.cells ((List.replicate j (0 : UInt8) ++ fixB d n).map u8v).toArray 5 (0, 0)) ∧ wr.heap[w.heap.size]? = some (.cells #[.int .i64 0, .int .i64 0] 36 (0, 0)) ∧ Ext w wr

structure ThingD where
  who : Int
  kind : Int
  n : Nat
  wd : Int
  t : ByteArray
  h : List UInt8
structure ThingD.Ok (x : ThingD) : Prop where
  who1 : -9223372036854775808 ≤ x.who
  who2 : x.who ≤ 9223372036854775807
  kind1 : -9223372036854775808 ≤ x.kind
  kind2 : x.kind ≤ 9223372036854775807
  n : x.n < 18446744073709551616
  wd1 : -9223372036854775808 ≤ x.wd
  wd2 : x.wd ≤ 9223372036854775807
  t : x.t.size ≤ 9223372036854775807
  h : x.h.length = 32
def thingCells (x : ThingD) : List Value := .int .i64 x.who :: .int .i64 x.kind :: .int .u64 x.n :: .int .i64 x.wd :: .string x.t :: x.h.map u8v
theorem hash_size : (Tryz.prog.info? 120).map (·.size) = some 32 := by kernel_rfl
theorem thingCells_len (x : ThingD) (h : x.h.length = 32) : (thingCells x).length = 37 := by simp [thingCells, h]
/-- A thing's form by the document, and what is wrong with it. -/
def fits (x : ThingD) : Bool := decide (1 ≤ x.wd ∧ x.wd ≤ 8) && decide (x.n / 2 ^ (8 * x.wd.toNat) = 0)
def formB (x : ThingD) : List UInt8 := if x.kind % 4 = 0 then (if fits x then fixB x.wd.toNat x.n else []) else if x.kind % 4 = 1 then varB x.n else if x.kind % 4 = 2 then varB x.t.size ++ x.t.data.toList else x.h
def formE (x : ThingD) : EV := if x.kind % 4 = 0 ∧ fits x = false then some (2, none) else none

/-- Fixed of a writer that is there, whatever the width. -/
theorem wfixed_any {B b : Nat} {w : World} {S : Nat → Prop} {xs : List UInt8} {se : Nat → Addr} (G : Genv B se w) (h : Writer B w S b xs) (x : ThingD) (hx : x.Ok) (hk : x.kind % 4 = 0) (hl : xs.length + 8 ≤ 1099511627776) :
    Calls Tryz.prog 26 #[.pointer (some ⟨b, 0, none⟩), .int .u64 x.n, .int .i64 x.wd] w fun e w' => ∃ v, e = .returned v ∧ ErrIs se w' v (formE x) ∧ Writer B w' (plus S w.heap.size w'.heap.size) b (xs ++ formB x) ∧ Upd S w w' := by
  have h1 : w.cell? ⟨b, 1, none⟩ = some (.bool true) := by obtain ⟨v, hb, _⟩ := h.ex; exact cell_of_blk hb 1
  have hw0 : Writer B w (plus S w.heap.size w.heap.size) b xs := h.weaken (fun k hk => .inl hk) (fun k hk => ⟨hk.elim (h.low k) (fun hk => by omega), hk.elim (h.lt k) (fun hk => by omega)⟩)
  by_cases hb : 1 ≤ x.wd ∧ x.wd ≤ 8
  · obtain ⟨k, hkk⟩ : ∃ k : Nat, x.wd = k := ⟨x.wd.toNat, by omega⟩
    by_cases hn : x.n / 2 ^ (8 * k) = 0
    · have hf : fits x = true := by simp [fits, hkk, hn]; omega
      have e1 : formB x = fixB k x.n := by simp [formB, hk, hf, hkk]
      have e2 : formE x = none := by simp [formE, hf]
      rw [e1, e2, hkk]
      exact (wfixed_ok h x.n k hx.n (by omega) (by omega) (fun _ => hn) G.size hl).mono fun e w' ⟨a, c, d⟩ => ⟨_, a, rfl, c, d⟩
    · have hf : fits x = false := by simp [fits, hkk, hn]
      have e1 : formB x = [] := by simp [formB, hk, hf]
      have e2 : formE x = some (2, none) := by simp [formE, hf, hk]
      rw [e1, e2, hkk, List.append_nil]
      have hk8 : k < 8 := by
        rcases Nat.lt_or_ge k 8 with h | h
        · exact h
        · have hk8 : k = 8 := by omega
          subst hk8
          exact absurd (Nat.div_eq_of_lt hx.n) hn
      refine (wfixed_big x.n k b w G h1 (by omega) hk8 hn hx.n).mono ?_
      rintro e w' ⟨rfl, rfl⟩
      exact ⟨_, rfl, ⟨by omega, by omega, rfl⟩, hw0, Upd.refl _ _⟩
  · have hf : fits x = false := by simp [fits]; omega
    have e1 : formB x = [] := by simp [formB, hk, hf]
    have e2 : formE x = some (2, none) := by simp [formE, hf, hk]
    rw [e1, e2, List.append_nil]
    refine (wfixed_bad x.n x.wd b w G h1 (by omega)).mono ?_
    rintro e w' ⟨rfl, rfl⟩
    exact ⟨_, rfl, ⟨by omega, by omega, rfl⟩, hw0, Upd.refl _ _⟩
theorem formB_len (x : ThingD) (hx : x.Ok) : (formB x).length ≤ 32 + x.t.size := by
  have h1 := varN_len 10 x.n
  have h2 := varN_len 10 x.t.size
  have h3 : x.t.data.toList.length = x.t.size := by rw [Array.length_toList]; rfl
  have h4 := hx.h
  unfold formB varB
  split
  · split
    · rename_i hf
      simp only [fits, Bool.and_eq_true, decide_eq_true_eq] at hf
      rw [fixB_len]; omega
    · simp
  · split
    · omega
    · split
      · rw [List.length_append]; omega
      · omega

/-- The four kinds. -/
theorem kinds (x : ThingD) : x.kind % 4 = 0 ∨ x.kind % 4 = 1 ∨ x.kind % 4 = 2 ∨ x.kind % 4 = 3 := by omega
end Go.Proofs.YtljnhelnmnomoaaGreatDoor
