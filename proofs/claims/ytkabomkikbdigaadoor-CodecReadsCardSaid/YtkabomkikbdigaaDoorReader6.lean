/- codec.Reader: Fixed, Hash by contracts. -/
import Derived.Test.YtkabomkikbdigaaDoorReader5
namespace Go.Proofs.YtkabomkikbdigaaDoor
open Go.RowKit Go.Lib

/-- A number, the highest byte first. -/
def beNum (l : List UInt8) : Nat := l.foldl (fun n c => n * 256 + c.toNat) 0
theorem beNum_snoc (l : List UInt8) (c : UInt8) : beNum (l ++ [c]) = beNum l * 256 + c.toNat := by simp [beNum, List.foldl_append]
theorem beNum_lt (l : List UInt8) : beNum l < 256 ^ l.length := by
  have key : ∀ (l : List UInt8) (a : Nat), l.foldl (fun n c => n * 256 + c.toNat) a < (a + 1) * 256 ^ l.length := by
    intro l
    induction l with
    | nil => intro a; simp
    | cons c l ih =>
      intro a
      have h1 := ih (a * 256 + c.toNat)
      have h2 := c.toNat_lt
      rw [List.foldl_cons, List.length_cons, Nat.pow_succ]
      refine Nat.lt_of_lt_of_le h1 ?_
      rw [Nat.mul_comm (256 ^ l.length) 256, ← Nat.mul_assoc]
      exact Nat.mul_le_mul_right _ (by omega)
  unfold beNum
  simpa using key l 0
theorem conv_bytes (l : List UInt8) (w : World) : ∃ cap w', (convert 9 28 (.string (str l))).run Tryd.prog w = .ok (.slice (some ⟨w.heap.size, 0, none⟩) l.length cap) w' ∧ Ext w w' ∧ w.heap.size < w'.heap.size ∧
    ∀ j c, l[j]? = some c → w'.cell? ⟨w.heap.size, j, none⟩ = some (u8v c) := by
  have e := run_bytes_of_string (P := Tryd.prog) w 9 28 5 (str l) Tryd.underlying9 Tryd.underlying28 Tryd.underlying5
  rw [str_size] at e
  refine ⟨_, _, e, ((Upd.refl _ _).drew).alloc _, by simp, fun j c hj => ?_⟩
  have hb := blk_alloc w.drew (.cells (bytesRow (str l) (grownCap w l.length 0 5)) 5 ((bytesRow (str l) (grownCap w l.length 0 5)).size, (bytesRow (str l) (grownCap w l.length 0 5)).size + 1))
  have hlt : j < l.length := (List.getElem?_eq_some_iff.1 hj).1
  rw [show w.heap.size = w.drew.heap.size from rfl, cell_of_blk hb]
  have hc : l[j] = c := (List.getElem?_eq_some_iff.1 hj).2
  simp [bytesRow, Array.getElem?_append, hlt, hc]
theorem or_low (a c : Nat) (hc : c < 256) (h : 256 * a + c < 18446744073709551616) : bits .or .u64 ((256 * a : Nat) : Int) (c : Int) = ((256 * a + c : Nat) : Int) := by
  have e := Nat.two_pow_add_eq_or_of_lt (i := 8) (b := c) (by omega) a
  have p8 : (2 : Nat) ^ 8 = 256 := rfl
  rw [p8] at e
  have b1 : (BitVec.ofInt IntKind.u64.bits (c : Int)).toNat = c := by
    rw [BitVec.toNat_ofInt]; simp only [IntKind.bits]; omega
  have b2 : (BitVec.ofInt IntKind.u64.bits ((256 * a : Nat) : Int)).toNat = 256 * a := by
    rw [BitVec.toNat_ofInt]; simp only [IntKind.bits]; omega
  unfold bits
  simp only [BitVec.toNat_or, b1, b2]
  rw [← e]
  exact IntWalk.u64_in _ (by omega)
def RdD.fixed (x : RdD) (width : Int) : Nat × RdD :=
  if width < 1 ∨ 8 < width then (0, x.fail (some (2, none))) else
  if x.f ≠ none then (0, x) else (beNum (x.take width.toNat x.pos).1, (x.take width.toNat x.pos).2)
set_option maxRecDepth 4000 in
set_option maxHeartbeats 1000000 in
theorem fixed_mid {B b : Nat} {se : Nat → Addr} {w : World} {S : Nat → Prop} {x : RdD} (G : Genv B se w) (h : Reader B se w S b x) (k : Nat) (hk : 1 ≤ k) (hk2 : k ≤ 8) (hf : x.f = none) :
    Calls Tryd.prog 35 #[.pointer (some ⟨b, 0, none⟩), .int .i64 k] w fun e w' => e = .returned (.int .u64 (x.fixed k).1) ∧ Reader B se w' (plus S w.heap.size w'.heap.size) b (x.fixed k).2 ∧ Upd (one b) w w' := by
  have HG := Lib.hid G
  have HH := Lib.hid h
  have C := ready_ok h
  rw [hf] at C
  obtain ⟨fv, a, hb, ha, hp, he, hi⟩ := h.ex
  have c1 := cell_of_blk hb 1
  have hap := hp hf
  subst hap
  have C2 := take_ok G h k (x.pos : Int) (by omega)
  have d1 : decide ((k : Int) < 1) = false := by simp; omega
  have d2 : decide (8 < (k : Int)) = false := by simp; omega
  have e1 : x.fixed k = (beNum (x.take k x.pos).1, (x.take k x.pos).2) := by
    unfold RdD.fixed; rw [if_neg (by omega), if_neg (by simp [hf]), Int.toNat_natCast]
  rw [e1]
  clear h hb he hp hi hf e1 G
  have hlen : (x.take k x.pos).1.length ≤ 8 := by
    unfold RdD.take; split
    · exact Nat.le_trans (List.length_take_le _ _) hk2
    · simp
  generalize x.take k x.pos = t at *
  go_enter Tryd.func35, Tryd.ntmps35
  go_wp2_with (go_at_call 49; refine C.mono ?_; rintro e w' ⟨rfl, rfl⟩)
  refine C2.mono ?_
  rintro e w1 ⟨rfl, h1, h2⟩
  obtain ⟨cap, w2, hrun, hX, hsz2, hcells⟩ := conv_bytes t.1 w1
  have HX := Lib.hid hX
  have HCE := Lib.hid hcells
  have H1 := Lib.hid h1
  have H2 := Lib.hid h2
  have HL := Lib.hid hlen
  have hle8 : t.1.length ≤ 9223372036854775807 := by omega
  clear hX hcells h1 h2 C C2 hlen
  go_wp2_with fail
  clear hrun
  go_loopw [5, 29] (fun nv iv wr => ∃ (j : Nat), iv = .int .i64 j ∧ j ≤ t.1.length ∧ nv = .int .u64 (beNum (t.1.take j)) ∧ wr = w2) (fun _ iv _ => t.1.length - (intOf iv).toNat)
  case atStart => exact ⟨0, rfl, by omega, rfl, rfl⟩
  case round =>
    obtain ⟨j, rfl, hj, rfl, rfl⟩ := hrel
    by_cases hlt : j < t.1.length
    · have hcl := HCE.out j t.1[j] (by simp [hlt])
      have htk : t.1.take (j + 1) = t.1.take j ++ [t.1[j]] := by rw [List.take_succ_eq_append_getElem hlt]
      have hb1 := beNum_lt (t.1.take (j + 1))
      have hs1 := beNum_snoc (t.1.take j) t.1[j]
      rw [← htk] at hs1
      have hlen8 : (t.1.take (j + 1)).length ≤ 8 := Nat.le_trans (by rw [List.length_take]; exact Nat.min_le_right _ _) HL.out
      have h64 : beNum (t.1.take (j + 1)) < 18446744073709551616 := by
        have : (256 : Nat) ^ (t.1.take (j + 1)).length ≤ 256 ^ 8 := Nat.pow_le_pow_right (by omega) hlen8
        have e : (256 : Nat) ^ 8 = 18446744073709551616 := rfl
        omega
      have hc := t.1[j].toNat_lt
      have nv : bits .or .u64 (IntKind.u64.wrap ((beNum (t.1.take j) : Int) * 256)) (IntKind.u64.wrap (t.1[j].toNat : Int)) = (beNum (t.1.take (j + 1)) : Int) := by
        rw [IntWalk.u64_in ((beNum (t.1.take j) : Int) * 256) (by omega), IntWalk.u64_in (t.1[j].toNat : Int) (by omega), show (beNum (t.1.take j) : Int) * 256 = ((256 * beNum (t.1.take j) : Nat) : Int) from by omega, or_low _ _ hc (by omega)]
        omega
      have NV := Lib.hid nv
      clear htk hb1 hs1 hlen8 h64 hc nv
      go_wp2_with fail
      exact ⟨⟨j + 1, by simp, by omega, by rw [NV.out], trivial⟩, by simp [intOf]; omega⟩
    · obtain rfl : j = t.1.length := by omega
      have hs := HX.out.size
      have fin : Reader B se wr (plus S w.heap.size wr.heap.size) b t.2 := (H1.out.ext HX.out).weaken (fun k hk => hk.imp id (fun hk => ⟨hk.1, Nat.lt_of_lt_of_le hk.2 hs⟩)) (fun k hk => ⟨hk.elim (HH.out.low k) (fun hk => by have := HG.out.size; omega), hk.elim (fun hk => by have := HH.out.lt k hk; have := H2.out.size; omega) (fun hk => hk.2)⟩)
      have FIN := Lib.hid fin
      clear fin hs
      go_wp2_with fail
      go_ret
      exact ⟨by simp, FIN.out, H2.out.thenExt HX.out⟩

theorem fixed_ok {B b : Nat} {se : Nat → Addr} {w : World} {S : Nat → Prop} {x : RdD} (G : Genv B se w) (h : Reader B se w S b x) (k : Int) :
    Calls Tryd.prog 35 #[.pointer (some ⟨b, 0, none⟩), .int .i64 k] w fun e w' => e = .returned (.int .u64 (x.fixed k).1) ∧ Reader B se w' (plus S w.heap.size w'.heap.size) b (x.fixed k).2 ∧ Upd (one b) w w' := by
  have HG := Lib.hid G
  have HH := Lib.hid h
  have g2 := G.cell 2 (by decide) (by decide)
  simp only [gno] at g2
  by_cases hbad : k < 1 ∨ 8 < k
  · have e1 : x.fixed k = (0, x.fail (some (2, none))) := by unfold RdD.fixed; rw [if_pos hbad]
    rw [e1]
    have C := fail_ok h (sv se 2) (some (2, none)) ⟨by omega, by omega, rfl⟩ (by simp) (sv_in _ _ _)
    have HN := Lib.hid (fail_isNone x (some (2, none)) (by simp))
    have hh : ((decide (k < 1) = true) ∨ (decide (k < 1) = false ∧ decide (8 < k) = true)) := by
      by_cases h : k < 1
      · exact .inl (by simpa using h)
      · exact .inr ⟨by simpa using h, by simp; omega⟩
    clear h e1 G hbad
    rcases hh with h1 | ⟨h1, h2⟩
    all_goals
      go_enter Tryd.func35, Tryd.ntmps35
      go_wp2_with fail
      refine C.mono ?_
      rintro e w1 ⟨rfl, h1, h2⟩
      have C2 := ready_ok h1
      rw [HN.out] at C2
      have H1 := Lib.hid (HH.out.grow HG.out.size _ h2.size h1 rfl)
      have H2 := Lib.hid h2
      clear h1 h2 C
      go_wp2_with (go_at_call 49; refine C2.mono ?_; rintro e w' ⟨rfl, rfl⟩)
      go_ret
      exact ⟨rfl, H1.out, H2.out⟩
  · obtain ⟨n, rfl⟩ : ∃ n : Nat, k = n := ⟨k.toNat, by omega⟩
    by_cases hf : x.f = none
    · exact fixed_mid G h n (by omega) (by omega) hf
    · have C := ready_ok h
      rw [show x.f.isNone = false from by cases h : x.f <;> simp_all] at C
      have e1 : x.fixed n = (0, x) := by unfold RdD.fixed; rw [if_neg hbad, if_pos hf]
      rw [e1]
      have HS := Lib.hid h.start
      have d1 : decide ((n : Int) < 1) = false := by simp; omega
      have d2 : decide (8 < (n : Int)) = false := by simp; omega
      clear h hf e1 G g2 hbad
      go_enter Tryd.func35, Tryd.ntmps35
      go_wp2_with (go_at_call 49; refine C.mono ?_; rintro e w' ⟨rfl, rfl⟩)
      go_ret
      exact ⟨rfl, HS.out, Upd.refl _ _⟩
end Go.Proofs.YtkabomkikbdigaaDoor
