/- cartularyref03.Decimal: the decimal numeral of every uint64 (no further condition). -/
import Derived.Test.YtkabomkikbdigaaDoorUint
import Derived.Test.YtkabomkikbdigaaDoorWriter3
import Derived.Deep.Cut
namespace Go.Proofs.YtkabomkikbdigaaDoor
open Go.RowKit Go.Lib

/-- What is still to be written, and what lies there from behind. -/
def decD (n : Nat) (ys : List UInt8) (m : Nat) : Prop := Lib.decDigits n = if m = 0 ∧ ys ≠ [] then ys.reverse else Lib.decDigits m ++ ys.reverse
theorem decD.start (n : Nat) : decD n [] n := by unfold decD; simp
theorem decD.step {n m : Nat} {ys : List UInt8} (h : decD n ys m) (hc : ¬ (m = 0 ∧ ys ≠ [])) : decD n (ys ++ [UInt8.ofNat (48 + m % 10)]) (m / 10) := by
  unfold decD at h ⊢
  rw [if_neg hc] at h
  rw [h]
  by_cases h10 : m < 10
  · have e0 : m / 10 = 0 := by omega
    have e1 : m % 10 = m := by omega
    rw [if_pos ⟨e0, by simp⟩, Lib.decDigits_one h10, e1]
    simp
  · have e0 : ¬ m / 10 = 0 := by omega
    rw [if_neg (fun h => e0 h.1)]
    conv => lhs; rw [Lib.decDigits, dif_neg h10]
    simp
theorem decD.done {n m : Nat} {ys : List UInt8} (h : decD n ys m) (hc : m = 0 ∧ ys ≠ []) : Lib.decDigits n = ys.reverse := by
  unfold decD at h; rw [if_pos hc] at h; exact h
def lenOf : Value → Nat
  | .slice _ n _ => n
  | _ => 0
/-- 1 where a slice is empty. -/
def emptyOf (v : Value) : Nat := if lenOf v = 0 then 1 else 0

set_option maxRecDepth 8000 in
/-- The reference's Decimal. -/
theorem rdec_any (n : Nat) (hn : n < 18446744073709551616) (w : World) : Calls Tryd.prog 40 #[.int .u64 n] w fun e w' => e = .returned (.string (str (Lib.decDigits n))) ∧ Ext w w' := by
  obtain ⟨i0, hi, hz0, hz1, hz2⟩ := info_parts info_u8
  go_enter Tryd.func40, Tryd.ntmps40
  go_wp2
  go_loopw [0, 3] (fun nv lv wr => ∃ (f m : Nat) (ys : List UInt8) (l : Value), nv = .int .u64 m ∧ l = lv ∧ m < 10 ^ f ∧ m < 18446744073709551616 ∧ ys.length + f = 20 ∧ decD n ys m ∧ (ys = [] → l = .slice none 0 0) ∧ wr.ownsRow w.heap.size 5 1 l ys.length (ys.map u8v) ∧ Ext w wr) (fun nv lv _ => (RowKit.intOf nv).toNat + emptyOf lv)
  case atStart => exact ⟨20, n, [], _, rfl, rfl, by simp; omega, hn, rfl, decD.start n, fun _ => rfl, World.ownsRow_nil _ _ _ _, Upd.refl _ _⟩
  case round =>
    obtain ⟨f, m, ys, l, rfl, rfl, hm1, hm, hf, hv, hnil, ho, hu⟩ := hrel
    have HO := Lib.hid ho
    have HU := Lib.hid hu
    have HF := Lib.hid hf
    have HV := Lib.hid hv
    have HM1 := Lib.hid hm1
    have hsz := hu.size
    have form := own_form ho
    by_cases hc : m = 0 ∧ ys ≠ []
    · rename World => W1
      obtain ⟨hm00, hne⟩ := hc
      have hd := hv.done ⟨hm00, hne⟩
      have hmi : ¬ (0 : Int) < m := by omega
      have hmi2 : ¬ 0 < m := by omega
      have HM0 := Lib.hid hm00
      have hpos : 0 < ys.length := by cases ys with | nil => exact absurd rfl hne | cons a t => simp
      have HP := Lib.hid hpos
      have hln : ¬ ys.length = 0 := by omega
      have hyl : ys.length ≤ 20 := by omega
      have hlb : ((ys.length : Int) == 0) = false := by simp; omega
      rcases form with ⟨rfl, h0⟩ | ⟨g, cap, rfl, hbg⟩
      · omega
      have HC : Hid (∀ j (hj : j < ys.length), W1.cell? ⟨g, j, none⟩ = some (u8v ys[j])) := Lib.hid (fun j hj => by
        have := ho.cells (g := g) rfl j (u8v ys[j]) (by simp [hj])
        simpa [Addr.add_lit] using this)
      have HG := Lib.hid (ho.lt g rfl)
      have HD := Lib.hid hd
      clear ho hu hf hv hm1 hpos hd hne hnil hm00
      go_wp2
      go_loopw [4, 5] (fun lv iv wr => ∃ (j : Nat) (l2 : Value), iv = .int .i64 ((ys.length : Int) - 1 - j) ∧ l2 = lv ∧ j ≤ ys.length ∧ wr.ownsRow W1.heap.size 5 1 l2 (ys.reverse.take j).length ((ys.reverse.take j).map u8v) ∧ Ext W1 wr) (fun _ iv _ => (RowKit.intOf iv + 1).toNat)
      case atStart => exact ⟨0, _, by simp, rfl, by omega, World.ownsRow_nil _ _ _ _, Upd.refl _ _⟩
      case round =>
        obtain ⟨j, l2, rfl, rfl, hj, ho, hu⟩ := hrel
        have HO2 := Lib.hid ho
        have HU2 := Lib.hid hu
        have hsz2 := hu.size
        by_cases hlt : j < ys.length
        · obtain ⟨k, hk⟩ : ∃ k, k + j + 1 = ys.length := ⟨ys.length - 1 - j, by omega⟩
          have hkl : k < ys.length := by omega
          have ek : (ys.length : Int) - 1 - j = k := by omega
          rw [ek]
          have hc : wr.cell? ⟨g, k, none⟩ = some (u8v ys[k]) := Ext.cellv hu (HC.out k hkl)
          have hjr : j < ys.reverse.length := by simp; exact hlt
          have ht : ys.reverse.take (j + 1) = ys.reverse.take j ++ [ys[k]] := by
            rw [List.take_succ_eq_append_getElem hjr]
            congr 2
            rw [List.getElem_reverse]
            congr 1
            omega
          have HT := Lib.hid ht
          have htl : (ys.reverse.take j).length ≤ 20 := by have := List.length_take_le j ys.reverse; simp at this ⊢; omega
          have htl1 : (ys.reverse.take j).length + 1 ≤ maxLen := by unfold maxLen; omega
          have HTL := Lib.hid htl
          have HTL1 := Lib.hid htl1
          have HOa := Lib.hid (ownsRow_upd ho ((Upd.refl none' wr).alloc (.cells #[u8v ys[k]] 5)) (fun _ _ => id))
          have hBa : W1.heap.size ≤ (wr.alloc (.cells #[u8v ys[k]] 5)).heap.size := by simp; omega
          have HBa := Lib.hid hBa
          have HEK := Lib.hid ek
          have HK := Lib.hid hk
          have hkc : k < cap + 1 ∨ True := .inr trivial
          have hk0 : (0 : Int) ≤ k := by omega
          clear ho hu hBa ht htl htl1 hjr ek hk hsz2 hkc
          go_wp2_with (at_builtin; go_must (refine wpList_app rfl _ _ 28 rfl W1.heap.size 5 i0 (.int .u8 0) 1 1 Tryd.underlying28 hi hz0 hz1 hz2 rfl (by decide) l2 (ys.reverse.take j).length ((ys.reverse.take j).map u8v) rfl HOa.out ⟨wr.heap.size, 0, none⟩ 1 1 [u8v ys[k]] rfl rfl ?c1 ?c2 HTL1.out ?c4 HBa.out ?_))
          case c1 => intro j u hu; exact cells_at (blk_alloc wr _) j u hu
          case c2 => intro u hu; simp at hu; subst hu; rfl
          case c4 => have := HTL.out; omega
          intro v' w1 hown' hg _
          have hown2 : w1.ownsRow W1.heap.size 5 1 v' (ys.reverse.take (j + 1)).length ((ys.reverse.take (j + 1)).map u8v) := by
            have hl : (ys.reverse.take j).length = j := by rw [List.length_take, List.length_reverse]; omega
            rw [HT.out, List.length_append, List.map_append, hl, List.map_take, List.map_reverse]
            exact hown'
          have hU1 := (HU2.out.alloc (.cells #[u8v ys[k]] 5)).grown hg (fun k hk => .inl (HOa.out.lt k hk).1)
          have HO3 := Lib.hid hown2
          have HU3 := Lib.hid hU1
          clear hown' hown2 hg hU1
          go_wp2_with fail
          refine ⟨⟨j + 1, _, by have := HK.out; congr 1; simp; omega, rfl, by have := HK.out; omega, HO3.out, HU3.out⟩, by have := HK.out; simp [RowKit.intOf]; try omega⟩
        · obtain rfl : j = ys.length := by omega
          have e : ys.reverse.take ys.length = ys.reverse := List.take_of_length_le (by simp)
          rw [e] at ho
          have hs := run_str_own wr ho
          have e5 : (ys.length : Int) - 1 - ys.length = -1 := by omega
          rw [e5]
          have form := own_form ho
          have HU := Lib.hid (HU.out.thenExt hu)
          clear ho hu HO HO2 HU2 e
          rcases form with ⟨rfl, _⟩ | ⟨g2, cap2, rfl, _⟩
          all_goals
            try rw [List.length_reverse] at hs
            go_wp2
            go_ret
            exact ⟨by rw [HD.out]; rfl, HU.out⟩
    · have hst := hv.step hc
      have hf1 : 1 ≤ f ∧ m / 10 < 10 ^ (f - 1) := by
        cases f with
        | zero => simp at hm1; have : ys.length = 20 := by omega
                  exact absurd ⟨hm1, by intro h; rw [h] at this; simp at this⟩ hc
        | succ f => refine ⟨by omega, ?_⟩; rw [Nat.pow_succ] at hm1; simp; omega
      have hm8 : (UInt8.ofNat (48 + m % 10)).toNat = 48 + m % 10 := by rw [UInt8.toNat_ofNat']; omega
      have HM8 := Lib.hid hm8
      have HF1 := Lib.hid hf1
      have HST := Lib.hid hst
      have HOa := Lib.hid (ownsRow_upd ho ((Upd.refl none' wr).alloc (.cells #[.int .u8 (48 + (m : Int) % 10)] 5)) (fun _ _ => id))
      have hBa : w.heap.size ≤ (wr.alloc (.cells #[.int .u8 (48 + (m : Int) % 10)] 5)).heap.size := by simp; omega
      have HBa := Lib.hid hBa
      have hyl : ys.length ≤ 20 := by omega
      have hlen : ys.length + 1 ≤ maxLen := by unfold maxLen; omega
      have HLEN := Lib.hid hlen
      have HC := Lib.hid hc
      rcases Nat.eq_zero_or_pos m with rfl | hp
      · obtain rfl : ys = [] := by
          by_cases hy : ys = []
          · exact hy
          · exact absurd ⟨rfl, hy⟩ hc
        obtain rfl := hnil rfl
        have HOb : Hid ((wr.alloc (.cells #[.int .u8 48] 5)).ownsRow w.heap.size 5 1 (.slice none 0 0) 0 []) := Lib.hid (by have := HOa.out; simpa using this)
        have hB2 : w.heap.size ≤ (wr.alloc (.cells #[.int .u8 48] 5)).heap.size := by simp; omega
        have HBb := Lib.hid hB2
        clear ho hu hf hv hm1 hf1 hm8 hst hBa hsz hlen hc HOa HBa hB2 form hnil
        go_wp2_with (at_builtin; go_must (refine wpList_app rfl _ _ 28 rfl w.heap.size 5 i0 (.int .u8 0) 1 1 Tryd.underlying28 hi hz0 hz1 hz2 rfl (by decide) _ 0 [] rfl HOb.out ⟨wr.heap.size, 0, none⟩ 1 1 [.int .u8 48] rfl rfl (fun j u hu => cells_at (blk_alloc wr _) j u hu) (by intro u hu; simp at hu; subst hu; rfl) (by decide) (by omega) HBb.out ?_))
        intro v' w1 hown' hg _
        have hown2 : w1.ownsRow w.heap.size 5 1 v' (([] : List UInt8) ++ [UInt8.ofNat (48 + 0 % 10)]).length ((([] : List UInt8) ++ [UInt8.ofNat (48 + 0 % 10)]).map u8v) := by
          have e1 : (([] : List UInt8) ++ [UInt8.ofNat (48 + 0 % 10)]).map u8v = [.int .u8 48] := by rfl
          rw [e1]; exact hown'
        have hU1 := (HU.out.alloc (.cells #[.int .u8 48] 5)).grown hg (fun k hk => .inl (HOb.out.lt k hk).1)
        have HO2 := Lib.hid hown2
        have HU1 := Lib.hid hU1
        have hform := own_form hown2
        clear hown' hown2 hg hU1
        go_wp2_with fail
        refine ⟨⟨f - 1, 0, _, _, by simp, rfl, HF1.out.2, by omega, by have := HF.out; have := HF1.out; simp at *; omega, HST.out, fun h => by simp at h, HO2.out, HU1.out⟩, ?_⟩
        have hl1 : lenOf v' = 1 := by
          rcases hform with ⟨_, h⟩ | ⟨g', c', rfl, _⟩
          · simp at h
          · simp [lenOf]
        show (RowKit.intOf (.int .u64 0)).toNat + emptyOf v' < (RowKit.intOf (.int .u64 0)).toNat + emptyOf (.slice none 0 0)
        unfold emptyOf
        rw [hl1]
        decide
      · clear ho hu hf hv hm1 hf1 hm8 hst hBa hsz hlen hc hnil
        rcases form with ⟨rfl, h0⟩ | ⟨g, cap, rfl, hbg⟩
        all_goals
          try (have H00 := Lib.hid h0; clear h0)
          have h0 := Lib.hid hp
          go_wp2_with (at_builtin; go_must (refine wpList_app rfl _ _ 28 rfl w.heap.size 5 i0 (.int .u8 0) 1 1 Tryd.underlying28 hi hz0 hz1 hz2 rfl (by decide) _ ys.length (ys.map u8v) rfl HOa.out ⟨wr.heap.size, 0, none⟩ 1 1 [.int .u8 (48 + (m : Int) % 10)] rfl rfl (fun j u hu => cells_at (blk_alloc wr _) j u hu) (by intro u hu; simp at hu; subst hu; rfl) HLEN.out (by omega) HBa.out ?_))
          intro v' w1 hown' hg _
          have hown2 : w1.ownsRow w.heap.size 5 1 v' (ys ++ [UInt8.ofNat (48 + m % 10)]).length ((ys ++ [UInt8.ofNat (48 + m % 10)]).map u8v) := by
            rw [List.length_append, List.map_append]
            have e1 : [UInt8.ofNat (48 + m % 10)].map u8v = [.int .u8 (48 + (m : Int) % 10)] := by
              simp only [List.map_cons, List.map_nil, u8v, HM8.out]; congr 2
            rw [e1]; exact hown'
          have hU1 := (HU.out.alloc (.cells #[.int .u8 (48 + (m : Int) % 10)] 5)).grown hg (fun k hk => .inl (HOa.out.lt k hk).1)
          have HO2 := Lib.hid hown2
          have HU1 := Lib.hid hU1
          have hform := own_form hown2
          clear hown' hown2 hg hU1
          go_wp2_with fail
          refine ⟨⟨f - 1, m / 10, _, _, by simp, rfl, HF1.out.2, by omega, by have := HF.out; have := HF1.out; simp; omega, HST.out, fun h => by simp at h, HO2.out, HU1.out⟩, ?_⟩
          have hl1 : lenOf v' = ys.length + 1 := by
            rcases hform with ⟨_, h⟩ | ⟨g', c', rfl, _⟩
            · simp at h
            · simp [lenOf]
          have he : emptyOf v' = 0 := by unfold emptyOf; rw [hl1]; simp
          rw [he]
          have := h0.out
          simp [RowKit.intOf]
          omega
end Go.Proofs.YtkabomkikbdigaaDoor
