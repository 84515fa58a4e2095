/- codec.Reader: number, Var by contracts. -/
import Derived.Test.YtkdhjighomnooaaDoorReader
namespace Go.Proofs.YtkdhjighomnooaaDoor
open Go.RowKit Go.Lib

/-- The number whose form these bytes begin with, and how many they are; f: so many bytes at most; first: is this the first? -/
def numGo : Nat → Bool → List UInt8 → Option (Nat × Nat)
  | 0, _, _ => none
  | _ + 1, _, [] => none
  | f + 1, first, c :: l => if (f = 0 ∧ 1 < c.toNat) ∨ (first = false ∧ c.toNat = 0) then none else if c.toNat < 128 then some (c.toNat, 1) else (numGo f false l).map fun p => (c.toNat % 128 + 128 * p.1, p.2 + 1)
def numB (l : List UInt8) : Option (Nat × Nat) := numGo 10 true l
theorem bits_and127 (x : Nat) (h : x < 256) : bits .and .u8 x 127 = ((x % 128 : Nat) : Int) := by
  have : ∀ y : Fin 256, bits .and .u8 (y.val : Int) 127 = ((y.val % 128 : Nat) : Int) := by decide +kernel
  exact this ⟨x, h⟩
theorem bits_or64 (a c k : Nat) (ha : a < 2 ^ k) (hs : 2 ^ k * c + a < 18446744073709551616) : bits .or .u64 (a : Int) ((2 ^ k * c : Nat) : Int) = ((2 ^ k * c + a : Nat) : Int) := by
  have h1 : a < 18446744073709551616 := by omega
  have h2 : 2 ^ k * c < 18446744073709551616 := by omega
  have e := Nat.two_pow_add_eq_or_of_lt ha c
  have b1 : (BitVec.ofInt IntKind.u64.bits (a : Int)).toNat = a := by
    rw [BitVec.toNat_ofInt]; simp only [IntKind.bits]; omega
  have b2 : (BitVec.ofInt IntKind.u64.bits ((2 ^ k * c : Nat) : Int)).toNat = 2 ^ k * c := by
    rw [BitVec.toNat_ofInt]; simp only [IntKind.bits]; omega
  unfold bits
  simp only [BitVec.toNat_or, b1, b2]
  rw [Nat.or_comm, ← e]
  exact IntWalk.u64_in _ (by omega)
@[simp] theorem bytes_getElem (l : List UInt8) (i : Nat) (h : i < (ByteArray.mk l.toArray).size) : (ByteArray.mk l.toArray)[i] = l[i]'(by simpa [ByteArray.size] using h) := rfl
/-- What number answers. -/
def numEnd : Option (Nat × Nat) → Ending
  | some (n, _) => .returned (.tuple #[.int .u64 n, .bool true])
  | none => .returned (.tuple #[.int .u64 0, .bool false])
def NumPost (B : Nat) (se : Nat → Addr) (S : Nat → Prop) (b : Nat) (x : RdD) (w : World) (e : Ending) (w' : World) : Prop := ∃ y : RdD, y.f = none ∧ y.s = x.s ∧ y.pos ≤ x.s.size ∧
  e = numEnd (numB x.rest) ∧ (∀ n k, numB x.rest = some (n, k) → y.pos = x.pos + k) ∧ Reader B se w' S b y ∧ Upd (one b) w w'
/-- What the loop of number keeps. -/
def NumRel (B : Nat) (se : Nat → Addr) (S : Nat → Prop) (b : Nat) (x : RdD) (w : World) (nv iv : Value) (wr : World) : Prop := ∃ (i acc : Nat) (y : RdD), iv = .int .i64 i ∧ nv = .int .u64 acc ∧ i ≤ 9 ∧ acc < 2 ^ (7 * i) ∧ y.f = none ∧ y.s = x.s ∧ y.pos = x.pos + i ∧ y.pos ≤ x.s.size ∧
    numB x.rest = (numGo (10 - i) (i == 0) y.rest).map (fun p => (acc + 2 ^ (7 * i) * p.1, i + p.2)) ∧ Reader B se wr S b y ∧ Upd (one b) w wr
theorem rest_next (x : RdD) (c : UInt8) (l : List UInt8) (h : x.rest = c :: l) : ({ x with pos := x.pos + 1 } : RdD).rest = l := by
  unfold RdD.rest at *
  rw [← List.drop_drop, h]; rfl

set_option maxRecDepth 8000 in
set_option maxHeartbeats 2000000 in
theorem number_ok {B b : Nat} {se : Nat → Addr} {w : World} {S : Nat → Prop} {x : RdD} (h : Reader B se w S b x) (hf : x.f = none) (hp : x.pos ≤ x.s.size) :
    Calls Tryd.prog 61 #[.func (.func 62) #[.pointer (some ⟨b, 0, none⟩)] #[]] w (NumPost B se S b x w) := by
  have start : NumRel B se S b x w (.int .u64 0) (.int .i64 0) w := ⟨0, 0, x, rfl, rfl, by omega, by simp, hf, rfl, rfl, hp, by simp [numB], h, Upd.refl _ _⟩
  have ST := Lib.hid start
  clear h hf hp start
  go_enter Tryd.func61, Tryd.ntmps61
  go_wp2_with fail
  go_loopw [4, 5] (fun nv iv wr => NumRel B se S b x w nv iv wr) (fun _ iv _ => 10 - (intOf iv).toNat)
  case atStart => exact ST.out
  case round =>
    obtain ⟨i, acc, y, rfl, rfl, hi, hacc, hyf, hys, hyp, hyz, hnum, hR, hU⟩ := hrel
    have HU := Lib.hid hU
    by_cases hlt : y.pos + 1 ≤ y.s.size
    · have C := next_yes hR 1 hyf hlt
      obtain ⟨c, l, hcl⟩ : ∃ c l, y.rest = c :: l := by
        cases hr : y.rest with
        | nil => have := congrArg List.length hr; simp [RdD.rest] at this; have e : y.s.data.size = y.s.size := rfl; omega
        | cons c l => exact ⟨c, l, rfl⟩
      rw [hcl] at C hnum
      have hcb : c.toNat < 256 := c.toNat_lt
      have hrn := rest_next y c l hcl
      obtain ⟨f, hf10⟩ : ∃ f, 10 - i = f + 1 := ⟨9 - i, by omega⟩
      rw [hf10] at hnum
      have hlen : (i = 9 ↔ f = 0) := by omega
      have hp7 : i < 9 → 2 ^ (7 * i) ≤ 2 ^ 56 := fun h => Nat.pow_le_pow_right (by omega) (by omega)
      by_cases hbad : (f = 0 ∧ 1 < c.toNat) ∨ ((i == 0) = false ∧ c.toNat = 0)
      · have hnone : numB x.rest = none := by rw [hnum]; unfold numGo; rw [if_pos hbad]; rfl
        have fin : ∀ w', Reader B se w' S b { y with pos := y.pos + 1 } → Upd (one b) wr w' → NumPost B se S b x w (.returned (.tuple #[.int .u64 0, .bool false])) w' := fun w' h1 h2 =>
          ⟨({ y with pos := y.pos + 1 } : RdD), hyf, hys, (by rw [← hys]; exact hlt), (by rw [hnone]; rfl), (fun n k e => by (rw [hnone] at e; cases e)), h1, HU.out.trans h2⟩
        have FIN := Lib.hid fin
        have hb2 : ((((i : Int) == 9) = true ∧ 1 < (c.toNat : Int)) ∨ (((i : Int) == 9) = true ∧ decide (1 < (c.toNat : Int)) = false ∧ ((c.toNat : Int) == 0) = true ∧ 0 < i)) ∨ (((i : Int) == 9) = false ∧ 0 < i ∧ ((c.toNat : Int) == 0) = true) := by
          rcases hbad with ⟨h1, h2⟩ | ⟨h1, h2⟩
          · exact .inl (.inl ⟨by simp; omega, by omega⟩)
          · have h3 : i ≠ 0 := by simpa using h1
            by_cases h9 : i = 9
            · exact .inl (.inr ⟨by simp; omega, by simp; omega, by simp; omega, by omega⟩)
            · exact .inr ⟨by simp; omega, by omega, by simp; omega⟩
        clear hU hnum hyf hys hyp hyz hR hcl hrn hf10 hlen hp7 hbad hnone fin hacc hlt
        rcases hb2 with (⟨t1, t2⟩ | ⟨t1, t2, t3, t4⟩) | ⟨t1, t2, t3⟩
        all_goals
          go_wp2_with fail
          refine C.mono ?_
          rintro e w' ⟨rfl, h1, h2⟩
          have F := Lib.hid (FIN.out w' h1 h2)
          clear h1 h2
          go_wp2_with fail
          go_ret2
          exact F.out
      · have hgood : numGo (f + 1) (i == 0) (c :: l) = if c.toNat < 128 then some (c.toNat, 1) else (numGo f false l).map fun p => (c.toNat % 128 + 128 * p.1, p.2 + 1) := by
          conv => lhs; unfold numGo
          rw [if_neg hbad]
        rw [hgood] at hnum
        have hc9 : i = 9 → c.toNat ≤ 1 := fun h => by
          rcases Nat.lt_or_ge 1 c.toNat with h1 | h1
          · exact absurd (.inl ⟨by omega, h1⟩) hbad
          · exact h1
        have hc0 : 0 < i → c.toNat ≠ 0 := fun h e => hbad (.inr ⟨by simp; omega, e⟩)
        have hadd : 2 ^ (7 * i) * (c.toNat % 128) + acc < 18446744073709551616 := by
          by_cases h9 : i = 9
          · have := hc9 h9
            have h63 : (2 : Nat) ^ (7 * i) = 9223372036854775808 := by rw [h9]
            rw [h63] at hacc ⊢
            have : c.toNat % 128 ≤ 1 := Nat.le_trans (Nat.mod_le _ _) this
            have := Nat.mul_le_mul_left 9223372036854775808 this
            omega
          · have h56 := hp7 (by omega)
            have : c.toNat % 128 ≤ 127 := by omega
            have := Nat.mul_le_mul h56 this
            have e : (2 : Nat) ^ 56 = 72057594037927936 := by rfl
            rw [e] at this h56
            omega
        have hor := bits_or64 acc (c.toNat % 128) (7 * i) hacc hadd
        have hand := bits_and127 c.toNat hcb
        have hshl : IntKind.u64.wrap (((c.toNat % 128 : Nat) : Int) * 2 ^ (7 * i)) = ((2 ^ (7 * i) * (c.toNat % 128) : Nat) : Int) := by
          rw [show ((c.toNat % 128 : Nat) : Int) * 2 ^ (7 * i) = ((2 ^ (7 * i) * (c.toNat % 128) : Nat) : Int) from by rw [Int.natCast_mul, Int.natCast_pow, Int.mul_comm]; rfl]
          exact IntWalk.u64_in _ (by omega)
        have tst : (((i : Int) == 9) = true ∧ decide (1 < (c.toNat : Int)) = false ∧ ((c.toNat : Int) == 0) = false ∧ 0 < i) ∨ (((i : Int) == 9) = false ∧ 0 < i ∧ ((c.toNat : Int) == 0) = false) ∨ (((i : Int) == 9) = false ∧ ¬ 0 < i) := by
          by_cases h9 : i = 9
          · have := hc9 h9
            have := hc0 (by omega)
            exact .inl ⟨by simp; omega, by simp; omega, by simp; omega, by omega⟩
          · by_cases h0 : 0 < i
            · have := hc0 h0
              exact .inr (.inl ⟨by simp; omega, h0, by simp; omega⟩)
            · exact .inr (.inr ⟨by simp; omega, h0⟩)
        have nv : bits .or .u64 (acc : Int) (IntKind.u64.wrap (IntKind.u64.wrap (bits .and .u8 (c.toNat : Int) 127) * 2 ^ (7 * i))) = ((2 ^ (7 * i) * (c.toNat % 128) + acc : Nat) : Int) := by
          rw [hand, show IntKind.u64.wrap ((c.toNat % 128 : Nat) : Int) = ((c.toNat % 128 : Nat) : Int) from IntWalk.u64_in _ (by omega), hshl, hor]
        have NV := Lib.hid nv
        by_cases h128 : c.toNat < 128
        · have hmod : c.toNat % 128 = c.toNat := Nat.mod_eq_of_lt h128
          have hsome : numB x.rest = some (2 ^ (7 * i) * (c.toNat % 128) + acc, i + 1) := by
            rw [hnum, if_pos h128]; simp only [Option.map_some]; rw [hmod, Nat.add_comm]
          have fin : ∀ w', Reader B se w' S b { y with pos := y.pos + 1 } → Upd (one b) wr w' → NumPost B se S b x w (.returned (.tuple #[.int .u64 ((2 ^ (7 * i) * (c.toNat % 128) + acc : Nat) : Int), .bool true])) w' := fun w' h1 h2 =>
            ⟨({ y with pos := y.pos + 1 } : RdD), hyf, hys, (by rw [← hys]; exact hlt), (by rw [hsome]; rfl), (fun n k e => by (rw [hsome] at e; cases e; show y.pos + 1 = _; omega)), h1, HU.out.trans h2⟩
          have FIN := Lib.hid fin
          have d128 : decide ((c.toNat : Int) < 128) = true := by simp; omega
          clear hU hnum hyf hys hyp hyz hR hcl hrn hf10 hlen hp7 hbad fin hacc hlt hgood hc9 hc0 hadd hor hand hshl h128 hmod hsome nv
          rcases tst with ⟨t1, t2, t3, t4⟩ | ⟨t1, t2, t3⟩ | ⟨t1, t2⟩
          all_goals
            go_wp2_with fail
            refine C.mono ?_
            rintro e w' ⟨rfl, h1, h2⟩
            have F := Lib.hid (FIN.out w' h1 h2)
            clear h1 h2
            go_wp2_with fail
            go_ret2
            show NumPost B se S b x w (.returned (.tuple #[.int .u64 (bits .or .u64 (acc : Int) (IntKind.u64.wrap (IntKind.u64.wrap (bits .and .u8 (c.toNat : Int) 127) * 2 ^ (7 * i)))), .bool true])) w'
            rw [NV.out]
            exact F.out
        · have hi8 : i ≤ 8 := by
            rcases Nat.lt_or_ge i 9 with h | h
            · omega
            · have := hc9 (by omega); omega
          have hacc2 : 2 ^ (7 * i) * (c.toNat % 128) + acc < 2 ^ (7 * (i + 1)) := by
            rw [show 7 * (i + 1) = 7 * i + 7 from by omega, Nat.pow_add]
            have h1 : c.toNat % 128 + 1 ≤ 2 ^ 7 := by have : (2 : Nat) ^ 7 = 128 := rfl; omega
            have := Nat.mul_le_mul_left (2 ^ (7 * i)) h1
            rw [Nat.mul_add, Nat.mul_one] at this
            omega
          have hnum2 : numB x.rest = (numGo (10 - (i + 1)) (i + 1 == 0) l).map (fun p => ((2 ^ (7 * i) * (c.toNat % 128) + acc) + 2 ^ (7 * (i + 1)) * p.1, (i + 1) + p.2)) := by
            rw [hnum, if_neg h128, show 10 - (i + 1) = f from by omega, show (i + 1 == 0) = false from by simp, Option.map_map]
            congr 1
            funext p
            simp only [Function.comp]
            rw [show 7 * (i + 1) = 7 * i + 7 from by omega, Nat.pow_add, Nat.mul_add]
            refine Prod.ext ?_ (by omega)
            show acc + (_ + 2 ^ (7 * i) * (128 * p.1)) = _ + acc + 2 ^ (7 * i) * 2 ^ 7 * p.1
            rw [show (2 : Nat) ^ 7 = 128 from rfl, Nat.mul_assoc]
            omega
          have fin : ∀ w', Reader B se w' S b { y with pos := y.pos + 1 } → Upd (one b) wr w' → NumRel B se S b x w (.int .u64 ((2 ^ (7 * i) * (c.toNat % 128) + acc : Nat) : Int)) (.int .i64 ((i : Int) + 1)) w' := fun w' h1 h2 =>
            ⟨i + 1, _, ({ y with pos := y.pos + 1 } : RdD), by simp, rfl, by omega, hacc2, hyf, hys, (by show y.pos + 1 = _; omega), (by rw [← hys]; exact hlt), (by rw [hrn]; exact hnum2), h1, HU.out.trans h2⟩
          have FIN := Lib.hid fin
          have d128 : decide ((c.toNat : Int) < 128) = false := by simp; omega
          clear hU hnum hyf hys hyp hyz hR hcl hrn hf10 hlen hp7 hbad fin hacc hlt hgood hc9 hc0 hadd hor hand hshl h128 nv hacc2 hnum2
          rcases tst with ⟨t1, t2, t3, t4⟩ | ⟨t1, t2, t3⟩ | ⟨t1, t2⟩
          all_goals
            go_wp2_with fail
            refine C.mono ?_
            rintro e w' ⟨rfl, h1, h2⟩
            have F := Lib.hid (FIN.out w' h1 h2)
            clear h1 h2
            go_wp2_with fail
            rw [NV.out]
            exact ⟨F.out, by simp [intOf]; try omega⟩
    · have hnil : y.rest = [] := by
        unfold RdD.rest
        apply List.drop_eq_nil_of_le
        rw [Array.length_toList]; have e : y.s.data.size = y.s.size := rfl; omega
      have C := next_no hR 1 (.inr (by omega)) (by omega)
      obtain ⟨f, hf10⟩ : ∃ f, 10 - i = f + 1 := ⟨9 - i, by omega⟩
      have hnone : numB x.rest = none := by rw [hnum, hf10, hnil]; rfl
      have fin : ∀ w', Ext wr w' → NumPost B se S b x w (.returned (.tuple #[.int .u64 0, .bool false])) w' := fun w' h1 =>
        ⟨y, hyf, hys, hyz, (by rw [hnone]; rfl), (fun n k e => by (rw [hnone] at e; cases e)), hR.ext h1, HU.out.trans (Upd.ext h1 _)⟩
      have FIN := Lib.hid fin
      clear hU hnum hyf hys hyp hyz hR hf10 hnone fin hacc hlt hnil
      go_wp2_with fail
      refine C.mono ?_
      rintro e w' ⟨rfl, h1⟩
      have F := Lib.hid (FIN.out w' h1)
      clear h1
      go_wp2_with fail
      go_ret2
      exact F.out
end Go.Proofs.YtkdhjighomnooaaDoor
