/- DecodeQuery of any bytes; TextsSize. PRINTED by wip/tools/gen_mayl.py. -/
import Derived.Test.YtkdhjighomnooaaDoorDecQ2
import Derived.Test.YtkdhjighomnooaaDoorBackPlain
import Derived.Test.YtkdhjighomnooaaDoorOnce
namespace Go.Proofs.YtkdhjighomnooaaDoor
open Go.RowKit Go.Lib

/-- DecodeQuery, of any bytes. -/
theorem decQ_any {B : Nat} {se : Nat → Addr} {w : World} (G : Genv B se w) (A : Asks B w) (s : ByteArray) (hs : s.size ≤ 9223372036854775807) :
    Calls Tryd.prog 18 #[.string s] w (DecQPost se w (decQ s)) := by
  by_cases hl : 1048576 < s.size
  · have e : decQ s = (zeroQ, some (4, none)) := by unfold decQ; rw [if_pos hl]
    rw [e]; exact decQ_long G s hl hs
  · cases hd : s.data.toList with
    | nil =>
      have e : decQ s = (zeroQ, some (3, some 0)) := by unfold decQ; rw [if_neg hl, hd]
      have e2 : s = ⟨#[]⟩ := by
        have := str_toList s
        rw [hd] at this
        exact this.symm
      rw [e, e2]; exact decQ_empty G
    | cons c l =>
      by_cases hL : askL c.toNat = true
      · exact decQ_leaves G A s (by omega) c l hd hL
      · exact decQ_main G A s (by omega) c l hd (by simpa using hL)
set_option maxRecDepth 8000 in
set_option maxHeartbeats 4000000 in
theorem textsSize_any {w : World} {a : Option Addr} {l : List ByteArray} (h : TextsAt w a l) (ca : Nat) (hl : sizes l + l.length ≤ 1048576) : Calls Tryd.prog 14 #[.slice a l.length ca] w fun e w' => e = .returned (.int .i64 ((sizes l + l.length : Nat) : Int)) ∧ w = w' := by
  have HH := Lib.hid h
  have HL := Lib.hid hl
  clear h hl
  go_enter Tryd.func14, Tryd.ntmps14
  go_wp2_with fail
  go_loopw [3, 4] (fun tv iv wr => ∃ j m : Nat, j ≤ l.length ∧ iv = .int .i64 j ∧ tv = .int .i64 m ∧ m = sizes (l.take j) + j ∧ w = wr) (fun _ iv _ => l.length - (RowKit.intOf iv).toNat)
  case atStart => exact ⟨0, 0, by omega, rfl, rfl, by simp [sizes], rfl⟩
  case round =>
    obtain ⟨j, m, hj, rfl, rfl, hm, rfl⟩ := hrel
    have hst := sizes_take l j
    have hm2 : m ≤ 1048576 := by have := HL.out; omega
    have hm3 : (m : Int) ≤ 1048576 := by omega
    have HM := Lib.hid hm
    clear hm hst
    by_cases hlt : j < l.length
    · have hg := List.getElem?_eq_getElem hlt
      generalize l[j] = s at hg
      obtain ⟨h1, b, o, rfl, hc⟩ := HH.out j s hg
      have hs1 := sizes_take_succ l j s hg
      have hs2 := sizes_take l (j + 1)
      have HS := Lib.hid (show sizes (l.take (j + 1)) = sizes (l.take j) + s.size ∧ m + 1 + s.size ≤ 1048576 by have := HL.out; have := HM.out; omega)
      have hlti : (j : Int) < l.length := by omega
      have HW := Lib.hid (show wrap64 ((m : Int) + 1 + s.size) = ((m + 1 + s.size : Nat) : Int) ∧ wrap64 ((j : Int) + 1) = ((j + 1 : Nat) : Int) by have := HS.out.2; have := HL.out; unfold wrap64; omega)
      clear hg h1 hs1 hs2 hm2
      go_wp2_with fail
      have hm4 : (RowKit.intOf (.int .i64 (wrap64 ((j : Int) + 1)))).toNat = j + 1 := by rw [HW.out.2]; simp [RowKit.intOf]
      refine ⟨⟨j + 1, m + 1 + s.size, by omega, by rw [HW.out.2], by rw [HW.out.1], by have := HS.out; have := HM.out; omega, by trivial⟩, ?_⟩
      have hm5 : (RowKit.intOf (.int .i64 (j : Int))).toNat = j := by simp [RowKit.intOf]
      show l.length - (RowKit.intOf (.int .i64 (wrap64 ((j : Int) + 1)))).toNat < l.length - (RowKit.intOf (.int .i64 (j : Int))).toNat
      rw [hm4, hm5]; omega
    · obtain rfl : j = l.length := by omega
      have e : m = sizes l + l.length := by rw [HM.out, List.take_length]
      have HE := Lib.hid e
      clear e hm2
      go_wp2_with fail
      go_ret
      exact ⟨by first | (rw [HE.out]; rfl) | rw [HE.out], rfl⟩
end Go.Proofs.YtkdhjighomnooaaDoor
