/- codec.Writer: Var, Text, Hash, Fixed, Done by contracts. -/
import Derived.Test.YtkabomkikbdigaaDoorWriter
namespace Go.Proofs.YtkabomkikbdigaaDoor
open Go.RowKit Go.Lib

/-- A number in as few bytes as it wants, at most f of them. -/
def varN : Nat → Nat → List UInt8
  | 0, _ => []
  | f + 1, n => if n ≤ 127 then [n.toUInt8] else (n % 128 + 128).toUInt8 :: varN f (n / 128)
def varB (n : Nat) : List UInt8 := varN 10 n
theorem varN_len (f n : Nat) : (varN f n).length ≤ f := by
  induction f generalizing n with
  | zero => simp [varN]
  | succ f ih => unfold varN; split; · simp
                 have := ih (n / 128); simp; omega

theorem put1 {B b : Nat} {w : World} {S : Nat → Prop} {xs : List UInt8} (h : Writer B w S b xs) (x : Int) (hx : 0 ≤ x) (hx2 : x ≤ 255) (hB : B ≤ w.heap.size) (hn : xs.length + 1 ≤ 1099511627776) :
    Calls Tryd.prog 48 #[.pointer (some ⟨b, 0, none⟩), .slice (some ⟨w.heap.size, 0, none⟩) 1 1] (w.alloc (.cells #[.int .u8 x] 5)) fun e w' =>
      e = .returned (.tuple #[]) ∧ Writer B w' (plus S w.heap.size w'.heap.size) b (xs ++ [x.toNat.toUInt8]) ∧ Upd S w w' := by
  have X := (Upd.refl none' w).alloc (.cells #[.int .u8 x] 5)
  have hW := h.upd X (fun _ _ hk => hk)
  have e1 : (x.toNat.toUInt8.toNat : Int) = x := by simp; omega
  refine (put_ok hW ⟨w.heap.size, 0, none⟩ [x.toNat.toUInt8] 1 (Nat.le_trans hB X.size) ?_ (by simpa using hn)).mono ?_
  · intro j u hu
    match j, hu with
    | 0, hu => simp at hu; subst hu; simp [Addr.add]; omega
    | j + 1, hu => simp at hu
  · rintro e w' ⟨rfl, h1, h2⟩
    refine ⟨rfl, ?_, (Upd.ext X S).then h2 (fun _ _ hk => hk)⟩
    exact h1.weaken (fun k hk => hk.imp id (fun hk => ⟨by simp at hk; omega, hk.2⟩)) (fun k hk => ⟨hk.elim (h.low k) (fun hk => by omega), hk.elim (fun hk => Nat.lt_of_lt_of_le (h.lt k hk) (Nat.le_trans X.size h2.size)) (fun hk => hk.2)⟩)

theorem or128 (x : Nat) (h : x < 256) : bits .or .u8 x 128 = ((x % 128 + 128 : Nat) : Int) := by
  have : ∀ y : Fin 256, bits .or .u8 (y.val : Int) 128 = ((y.val % 128 + 128 : Nat) : Int) := by decide +kernel
  exact this ⟨x, h⟩
theorem plus_plus {S : Nat → Prop} {a b c : Nat} (hb : a ≤ b) (hc : b ≤ c) (k : Nat) (h : plus (plus S a b) b c k) : plus S a c k := by
  rcases h with (h | h) | h
  · exact .inl h
  · exact .inr ⟨h.1, by omega⟩
  · exact .inr ⟨by omega, h.2⟩
/-- Two calls, one behind the other. -/
theorem Writer.again {B b : Nat} {w w1 w2 : World} {S : Nat → Prop} {xs ys : List UInt8} (h : Writer B w S b xs) (hB : B ≤ w.heap.size) (u1 : Upd S w w1) (h2 : Writer B w2 (plus (plus S w.heap.size w1.heap.size) w1.heap.size w2.heap.size) b ys) (u2 : Upd (plus S w.heap.size w1.heap.size) w1 w2) :
    Writer B w2 (plus S w.heap.size w2.heap.size) b ys ∧ Upd S w w2 :=
  ⟨h2.weaken (fun k hk => plus_plus u1.size u2.size k hk) (fun k hk => ⟨hk.elim (h.low k) (fun hk => by omega), hk.elim (fun hk => Nat.lt_of_lt_of_le (h.lt k hk) (Nat.le_trans u1.size u2.size)) (fun hk => hk.2)⟩),
   u1.then u2 (fun k hk hp => hp.elim id (fun hp => by omega))⟩

set_option maxHeartbeats 1000000 in
theorem wvar_ok {B b : Nat} {w : World} {S : Nat → Prop} {xs : List UInt8} (h : Writer B w S b xs) (n : Nat) (hn : n < 18446744073709551616) (hB : B ≤ w.heap.size) (hl : xs.length + 10 ≤ 1099511627776) :
    Calls Tryd.prog 21 #[.pointer (some ⟨b, 0, none⟩), .int .u64 n] w fun e w' =>
      e = .returned (.tuple #[]) ∧ Writer B w' (plus S w.heap.size w'.heap.size) b (xs ++ varB n) ∧ Upd S w w' := by
  have HH := Lib.hid h
  have hs0 : Writer B w (plus S w.heap.size w.heap.size) b (xs ++ []) := by
    simpa using h.weaken (S' := plus S w.heap.size w.heap.size) (fun k hk => .inl hk) (fun k hk => ⟨hk.elim (h.low k) (fun hk => by omega), hk.elim (h.lt k) (fun hk => by omega)⟩)
  have HS0 := Lib.hid hs0
  clear h hs0
  go_enter Tryd.func21, Tryd.ntmps21
  go_wp2
  go_loopw [1] (fun nv wr => ∃ (f m : Nat) (ys : List UInt8), nv = .int .u64 m ∧ (1 ≤ f ∧ m < 2 * 128 ^ (f - 1)) ∧ m < 18446744073709551616 ∧ ys.length + f = 10 ∧ varB n = ys ++ varN f m ∧ Writer B wr (plus S w.heap.size wr.heap.size) b (xs ++ ys) ∧ Upd S w wr) (fun nv _ => (intOf nv).toNat)
  case atStart => exact ⟨10, n, [], rfl, ⟨by omega, by simpa using hn⟩, hn, rfl, rfl, HS0.out, Upd.refl _ _⟩
  case round =>
    obtain ⟨f, m, ys, rfl, ⟨hf1, hm1⟩, hm, hf, hv, hw, hu⟩ := hrel
    obtain ⟨f, rfl⟩ : ∃ g, f = g + 1 := ⟨f - 1, by omega⟩
    simp only [Nat.add_sub_cancel] at hm1
    have hBr : B ≤ wr.heap.size := Nat.le_trans hB hu.size
    have HV := Lib.hid hv
    have HU := Lib.hid hu
    by_cases hlt : m ≤ 127
    · have C := put1 hw (m : Int) (by omega) (by omega) hBr (by simp; omega)
      have hx : varB n = ys ++ [m.toUInt8] := by rw [hv]; unfold varN; rw [if_pos hlt]
      have HX := Lib.hid hx
      have HW0 := Lib.hid hw
      clear hv hw hu hf hm1 hx
      go_wp2_with (go_at_call 48; refine C.mono ?_; rintro e w' ⟨rfl, hW, hU⟩)
      go_end0
      rw [HX.out, ← List.append_assoc]
      exact ⟨rfl, HH.out.again hB HU.out (by simpa using hW) hU⟩
    · have C := put1 hw ((m % 128 + 128 : Nat) : Int) (by omega) (by omega) hBr (by simp; omega)
      have hb : bits .or .u8 ((m : Int) % 256) 128 = ((m % 128 + 128 : Nat) : Int) := by
        rw [show (m : Int) % 256 = ((m % 256 : Nat) : Int) from by omega, or128 _ (by omega)]; omega
      obtain ⟨g, rfl⟩ : ∃ g, f = g + 1 := ⟨f - 1, by cases f with
        | zero => simp at hm1; omega
        | succ g => omega⟩
      have hx : varB n = (ys ++ [(m % 128 + 128).toUInt8]) ++ varN (g + 1) (m / 128) := by rw [hv]; conv => lhs; unfold varN; rw [if_neg hlt]
                                                                                           simp
      have hm2 : m / 128 < 2 * 128 ^ g := by rw [Nat.pow_succ] at hm1; omega
      have HX := Lib.hid hx
      have HM := Lib.hid hm2
      have HF := Lib.hid hf
      clear hv hw hu hf hm1 hx hm2
      go_wp2_with (go_at_call 48; refine C.mono ?_; rintro e w' ⟨rfl, hW, hU⟩)
      have A := HH.out.again hB HU.out hW hU
      refine ⟨⟨g + 1, m / 128, ys ++ [(m % 128 + 128).toUInt8], by simp, ⟨by omega, HM.out⟩, by omega, by have := HF.out; simp; omega, HX.out, (by have := A.1; rwa [Int.toNat_natCast, List.append_assoc] at this), A.2⟩, by simp [intOf]; omega⟩
end Go.Proofs.YtkabomkikbdigaaDoor
