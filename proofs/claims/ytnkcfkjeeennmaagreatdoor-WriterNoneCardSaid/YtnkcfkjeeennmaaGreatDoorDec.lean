/- cartularyref03.Decimal: the decimal numeral of every uint64 (no further condition). text.Decimal, writer.Leaf and the document's by contracts (out of the text Leafname, without its row). The steps of a region by what its slots hold (Typed): each slot holds a value that is known, or a value of which something is known that lasts. Names end in 3 beside Typed2's. -/
import Derived.Test.YtnkcfkjeeennmaaGreatDoorUint
import Derived.Test.YtnkcfkjeeennmaaGreatDoorWriter2
import Derived.Test.YtnkcfkjeeennmaaGreatDoorBase
import Derived.Deep.Cut
import Derived.Test.YtnkcfkjeeennmaaGreatDoorInv
import Derived.Test.YtnkcfkjeeennmaaGreatDoorArgs
namespace Go.Proofs.YtnkcfkjeeennmaaGreatDoor
open Go.RowKit Go.Lib


theorem cells_atD {w : World} {g : Nat} {cs : List Value} {t : TypeId} (h : w.heap[g]? = some (.cells cs.toArray t (0, 0))) (j : Nat) (u : Value) (hu : cs[j]? = some u) : w.cell? ((⟨g, 0, none⟩ : Addr).add j) = some u := by
  rw [show (⟨g, 0, none⟩ : Addr).add j = ⟨g, j, none⟩ from by unfold Addr.add; split <;> simp_all, cell_of_blk h]
  simpa using hu
/-- What is still to be written, and what lies there from behind. -/
def decD (n : Nat) (ys : List UInt8) (m : Nat) : Prop := Lib.decDigits n = if m = 0 ∧ ys ≠ [] then ys.reverse else Lib.decDigits m ++ ys.reverse
theorem decD.start (n : Nat) : decD n [] n := by unfold decD; simp
theorem decD.step {n m : Nat} {ys : List UInt8} (h : decD n ys m) (hc : ¬ (m = 0 ∧ ys ≠ [])) : decD n (ys ++ [UInt8.ofNat (48 + m % 10)]) (m / 10) := by
  unfold decD at h ⊢
  rw [if_neg hc] at h
  rw [h]
  by_cases h10 : m < 10
  · have e0 : m / 10 = 0 := by omega
    have e1 : m % 10 = m := by omega
    rw [if_pos ⟨e0, by simp⟩, Lib.decDigits_one h10, e1]
    simp
  · have e0 : ¬ m / 10 = 0 := by omega
    rw [if_neg (fun h => e0 h.1)]
    conv => lhs; rw [Lib.decDigits, dif_neg h10]
    simp
theorem decD.done {n m : Nat} {ys : List UInt8} (h : decD n ys m) (hc : m = 0 ∧ ys ≠ []) : Lib.decDigits n = ys.reverse := by
  unfold decD at h; rw [if_pos hc] at h; exact h
def lenOf : Value → Nat
  | .slice _ n _ => n
  | _ => 0
/-- 1 where a slice is empty. -/
def emptyOf (v : Value) : Nat := if lenOf v = 0 then 1 else 0

set_option maxRecDepth 8000 in
/-- The reference's Decimal. -/
theorem rdec_any (n : Nat) (hn : n < 18446744073709551616) (w : World) : Calls Tryz.prog 194 #[.int .u64 n] w fun e w' => e = .returned (.string (str (Lib.decDigits n))) ∧ Ext w w' := by
  obtain ⟨i0, hi, hz0, hz1, hz2⟩ := info_parts info_u8
  go_enter Tryz.func194, Tryz.ntmps194
  go_wp2
  go_loopw [0, 3] (fun nv lv wr => ∃ (f m : Nat) (ys : List UInt8) (l : Value), nv = .int .u64 m ∧ l = lv ∧ m < 10 ^ f ∧ m < 18446744073709551616 ∧ ys.length + f = 20 ∧ decD n ys m ∧ (ys = [] → l = .slice none 0 0) ∧ wr.ownsRow w.heap.size 5 1 l ys.length (ys.map u8v) ∧ Ext w wr) (fun nv lv _ => (RowKit.intOf nv).toNat + emptyOf lv)
  case atStart => exact ⟨20, n, [], _, rfl, rfl, by simp; omega, hn, rfl, decD.start n, fun _ => rfl, World.ownsRow_nil _ _ _ _, Upd.refl _ _⟩
  case round =>
    obtain ⟨f, m, ys, l, rfl, rfl, hm1, hm, hf, hv, hnil, ho, hu⟩ := hrel
    have HO := Lib.hid ho
    have HU := Lib.hid hu
    have HF := Lib.hid hf
    have HV := Lib.hid hv
    have HM1 := Lib.hid hm1
    have hsz := hu.size
    have form := own_form ho
    by_cases hc : m = 0 ∧ ys ≠ []
    · rename World => W1
      obtain ⟨hm00, hne⟩ := hc
      have hd := hv.done ⟨hm00, hne⟩
      have hmi : ¬ (0 : Int) < m := by omega
      have hmi2 : ¬ 0 < m := by omega
      have HM0 := Lib.hid hm00
      have hpos : 0 < ys.length := by cases ys with | nil => exact absurd rfl hne | cons a t => simp
      have HP := Lib.hid hpos
      have hln : ¬ ys.length = 0 := by omega
      have hyl : ys.length ≤ 20 := by omega
      have hlb : ((ys.length : Int) == 0) = false := by simp; omega
      rcases form with ⟨rfl, h0⟩ | ⟨g, cap, rfl, hbg⟩
      · omega
      have HC : Hid (∀ j (hj : j < ys.length), W1.cell? ⟨g, j, none⟩ = some (u8v ys[j])) := Lib.hid (fun j hj => by
        have := ho.cells (g := g) rfl j (u8v ys[j]) (by simp [hj])
        simpa [Addr.add_lit] using this)
      have HG := Lib.hid (ho.lt g rfl)
      have HD := Lib.hid hd
      clear ho hu hf hv hm1 hpos hd hne hnil hm00
      go_wp2
      go_loopw [4, 5] (fun lv iv wr => ∃ (j : Nat) (l2 : Value), iv = .int .i64 ((ys.length : Int) - 1 - j) ∧ l2 = lv ∧ j ≤ ys.length ∧ wr.ownsRow W1.heap.size 5 1 l2 (ys.reverse.take j).length ((ys.reverse.take j).map u8v) ∧ Ext W1 wr) (fun _ iv _ => (RowKit.intOf iv + 1).toNat)
      case atStart => exact ⟨0, _, by simp, rfl, by omega, World.ownsRow_nil _ _ _ _, Upd.refl _ _⟩
      case round =>
        obtain ⟨j, l2, rfl, rfl, hj, ho, hu⟩ := hrel
        have HO2 := Lib.hid ho
        have HU2 := Lib.hid hu
        have hsz2 := hu.size
        by_cases hlt : j < ys.length
        · obtain ⟨k, hk⟩ : ∃ k, k + j + 1 = ys.length := ⟨ys.length - 1 - j, by omega⟩
          have hkl : k < ys.length := by omega
          have ek : (ys.length : Int) - 1 - j = k := by omega
          rw [ek]
          have hc : wr.cell? ⟨g, k, none⟩ = some (u8v ys[k]) := Ext.cellv hu (HC.out k hkl)
          have hjr : j < ys.reverse.length := by simp; exact hlt
          have ht : ys.reverse.take (j + 1) = ys.reverse.take j ++ [ys[k]] := by
            rw [List.take_succ_eq_append_getElem hjr]
            congr 2
            rw [List.getElem_reverse]
            congr 1
            omega
          have HT := Lib.hid ht
          have htl : (ys.reverse.take j).length ≤ 20 := by have := List.length_take_le j ys.reverse; simp at this ⊢; omega
          have htl1 : (ys.reverse.take j).length + 1 ≤ maxLen := by unfold maxLen; omega
          have HTL := Lib.hid htl
          have HTL1 := Lib.hid htl1
          have HOa := Lib.hid (ownsRow_upd ho ((Upd.refl none' wr).alloc (.cells #[u8v ys[k]] 5)) (fun _ _ => id))
          have hBa : W1.heap.size ≤ (wr.alloc (.cells #[u8v ys[k]] 5)).heap.size := by simp; omega
          have HBa := Lib.hid hBa
          have HEK := Lib.hid ek
          have HK := Lib.hid hk
          have hkc : k < cap + 1 ∨ True := .inr trivial
          have hk0 : (0 : Int) ≤ k := by omega
          clear ho hu hBa ht htl htl1 hjr ek hk hsz2 hkc
          go_wp2_with (at_builtin; go_must (refine wpList_app rfl _ _ 165 rfl W1.heap.size 5 i0 (.int .u8 0) 1 1 Tryz.underlying165 hi hz0 hz1 hz2 rfl (by decide) l2 (ys.reverse.take j).length ((ys.reverse.take j).map u8v) rfl HOa.out ⟨wr.heap.size, 0, none⟩ 1 1 [u8v ys[k]] rfl rfl ?c1 ?c2 HTL1.out ?c4 HBa.out ?_))
          case c1 => intro j u hu; exact cells_atD (blk_alloc wr _) j u hu
          case c2 => intro u hu; simp at hu; subst hu; rfl
          case c4 => have := HTL.out; omega
          intro v' w1 hown' hg _
          have hown2 : w1.ownsRow W1.heap.size 5 1 v' (ys.reverse.take (j + 1)).length ((ys.reverse.take (j + 1)).map u8v) := by
            have hl : (ys.reverse.take j).length = j := by rw [List.length_take, List.length_reverse]; omega
            rw [HT.out, List.length_append, List.map_append, hl, List.map_take, List.map_reverse]
            exact hown'
          have hU1 := (HU2.out.alloc (.cells #[u8v ys[k]] 5)).grown hg (fun k hk => .inl (HOa.out.lt k hk).1)
          have HO3 := Lib.hid hown2
          have HU3 := Lib.hid hU1
          clear hown' hown2 hg hU1
          go_wp2_with fail
          refine ⟨⟨j + 1, _, by have := HK.out; congr 1; simp; omega, rfl, by have := HK.out; omega, HO3.out, HU3.out⟩, by have := HK.out; simp [RowKit.intOf]; try omega⟩
        · obtain rfl : j = ys.length := by omega
          have e : ys.reverse.take ys.length = ys.reverse := List.take_of_length_le (by simp)
          rw [e] at ho
          have hs := run_str_own wr ho
          have e5 : (ys.length : Int) - 1 - ys.length = -1 := by omega
          rw [e5]
          have form := own_form ho
          have HU := Lib.hid (HU.out.thenExt hu)
          clear ho hu HO HO2 HU2 e
          rcases form with ⟨rfl, _⟩ | ⟨g2, cap2, rfl, _⟩
          all_goals
            try rw [List.length_reverse] at hs
            go_wp2
            go_ret
            exact ⟨by rw [HD.out]; rfl, HU.out⟩
    · have hst := hv.step hc
      have hf1 : 1 ≤ f ∧ m / 10 < 10 ^ (f - 1) := by
        cases f with
        | zero => simp at hm1; have : ys.length = 20 := by omega
                  exact absurd ⟨hm1, by intro h; rw [h] at this; simp at this⟩ hc
        | succ f => refine ⟨by omega, ?_⟩; rw [Nat.pow_succ] at hm1; simp; omega
      have hm8 : (UInt8.ofNat (48 + m % 10)).toNat = 48 + m % 10 := by rw [UInt8.toNat_ofNat']; omega
      have HM8 := Lib.hid hm8
      have HF1 := Lib.hid hf1
      have HST := Lib.hid hst
      have HOa := Lib.hid (ownsRow_upd ho ((Upd.refl none' wr).alloc (.cells #[.int .u8 (48 + (m : Int) % 10)] 5)) (fun _ _ => id))
      have hBa : w.heap.size ≤ (wr.alloc (.cells #[.int .u8 (48 + (m : Int) % 10)] 5)).heap.size := by simp; omega
      have HBa := Lib.hid hBa
      have hyl : ys.length ≤ 20 := by omega
      have hlen : ys.length + 1 ≤ maxLen := by unfold maxLen; omega
      have HLEN := Lib.hid hlen
      have HC := Lib.hid hc
      rcases Nat.eq_zero_or_pos m with rfl | hp
      · obtain rfl : ys = [] := by
          by_cases hy : ys = []
          · exact hy
          · exact absurd ⟨rfl, hy⟩ hc
        obtain rfl := hnil rfl
        have HOb : Hid ((wr.alloc (.cells #[.int .u8 48] 5)).ownsRow w.heap.size 5 1 (.slice none 0 0) 0 []) := Lib.hid (by have := HOa.out; simpa using this)
        have hB2 : w.heap.size ≤ (wr.alloc (.cells #[.int .u8 48] 5)).heap.size := by simp; omega
        have HBb := Lib.hid hB2
        clear ho hu hf hv hm1 hf1 hm8 hst hBa hsz hlen hc HOa HBa hB2 form hnil
        go_wp2_with (at_builtin; go_must (refine wpList_app rfl _ _ 165 rfl w.heap.size 5 i0 (.int .u8 0) 1 1 Tryz.underlying165 hi hz0 hz1 hz2 rfl (by decide) _ 0 [] rfl HOb.out ⟨wr.heap.size, 0, none⟩ 1 1 [.int .u8 48] rfl rfl (fun j u hu => cells_atD (blk_alloc wr _) j u hu) (by intro u hu; simp at hu; subst hu; rfl) (by decide) (by omega) HBb.out ?_))
        intro v' w1 hown' hg _
        have hown2 : w1.ownsRow w.heap.size 5 1 v' (([] : List UInt8) ++ [UInt8.ofNat (48 + 0 % 10)]).length ((([] : List UInt8) ++ [UInt8.ofNat (48 + 0 % 10)]).map u8v) := by
          have e1 : (([] : List UInt8) ++ [UInt8.ofNat (48 + 0 % 10)]).map u8v = [.int .u8 48] := by rfl
          rw [e1]; exact hown'
        have hU1 := (HU.out.alloc (.cells #[.int .u8 48] 5)).grown hg (fun k hk => .inl (HOb.out.lt k hk).1)
        have HO2 := Lib.hid hown2
        have HU1 := Lib.hid hU1
        have hform := own_form hown2
        clear hown' hown2 hg hU1
        go_wp2_with fail
        refine ⟨⟨f - 1, 0, _, _, by simp, rfl, HF1.out.2, by omega, by have := HF.out; have := HF1.out; simp at *; omega, HST.out, fun h => by simp at h, HO2.out, HU1.out⟩, ?_⟩
        have hl1 : lenOf v' = 1 := by
          rcases hform with ⟨_, h⟩ | ⟨g', c', rfl, _⟩
          · simp at h
          · simp [lenOf]
        show (RowKit.intOf (.int .u64 0)).toNat + emptyOf v' < (RowKit.intOf (.int .u64 0)).toNat + emptyOf (.slice none 0 0)
        unfold emptyOf
        rw [hl1]
        decide
      · clear ho hu hf hv hm1 hf1 hm8 hst hBa hsz hlen hc hnil
        rcases form with ⟨rfl, h0⟩ | ⟨g, cap, rfl, hbg⟩
        all_goals
          try (have H00 := Lib.hid h0; clear h0)
          have h0 := Lib.hid hp
          go_wp2_with (at_builtin; go_must (refine wpList_app rfl _ _ 165 rfl w.heap.size 5 i0 (.int .u8 0) 1 1 Tryz.underlying165 hi hz0 hz1 hz2 rfl (by decide) _ ys.length (ys.map u8v) rfl HOa.out ⟨wr.heap.size, 0, none⟩ 1 1 [.int .u8 (48 + (m : Int) % 10)] rfl rfl (fun j u hu => cells_atD (blk_alloc wr _) j u hu) (by intro u hu; simp at hu; subst hu; rfl) HLEN.out (by omega) HBa.out ?_))
          intro v' w1 hown' hg _
          have hown2 : w1.ownsRow w.heap.size 5 1 v' (ys ++ [UInt8.ofNat (48 + m % 10)]).length ((ys ++ [UInt8.ofNat (48 + m % 10)]).map u8v) := by
            rw [List.length_append, List.map_append]
            have e1 : [UInt8.ofNat (48 + m % 10)].map u8v = [.int .u8 (48 + (m : Int) % 10)] := by
              simp only [List.map_cons, List.map_nil, u8v, HM8.out]; congr 2
            rw [e1]; exact hown'
          have hU1 := (HU.out.alloc (.cells #[.int .u8 (48 + (m : Int) % 10)] 5)).grown hg (fun k hk => .inl (HOa.out.lt k hk).1)
          have HO2 := Lib.hid hown2
          have HU1 := Lib.hid hU1
          have hform := own_form hown2
          clear hown' hown2 hg hU1
          go_wp2_with fail
          refine ⟨⟨f - 1, m / 10, _, _, by simp, rfl, HF1.out.2, by omega, by have := HF.out; have := HF1.out; simp; omega, HST.out, fun h => by simp at h, HO2.out, HU1.out⟩, ?_⟩
          have hl1 : lenOf v' = ys.length + 1 := by
            rcases hform with ⟨_, h⟩ | ⟨g', c', rfl, _⟩
            · simp at h
            · simp [lenOf]
          have he : emptyOf v' = 0 := by unfold emptyOf; rw [hl1]; simp
          rw [he]
          have := h0.out
          simp [RowKit.intOf]
          omega
theorem Ext.grow (w : World) (k : Nat) (os : Array Obj) : Ext w (Sort.grow (w.drewN k) os) :=
  Ext.of_below (by
    have : Below w.heap.size (w.drewN k) (Sort.grow (w.drewN k) os) := ⟨rfl, rfl, rfl, by simp [Sort.grow, World.drewN], fun b hb => by simp [Sort.grow, World.drewN, Array.getElem?_append, hb]⟩
    exact ⟨rfl, rfl, rfl, this.size, fun b hb => this.block b hb⟩)
/-- The list of the row, as three tables of bare numbers. -/
def leafB : List UInt8 := [108, 101, 97, 102, 47]
theorem dec_len (u : Nat) (h : u < 18446744073709551616) : (Lib.decDigits u).length ≤ 20 := by
  rw [Lib.decDigits_length]
  by_cases h1 : 1 ≤ u
  · have := Lib.numDigits_eq u h1 h; split at this <;> omega
  · rw [Lib.nDigits_small (by omega)]; omega
/-- text.Decimal. -/
theorem decimal_any (u : Nat) (hu : u < 18446744073709551616) (w : World) (ht : Lib.TabIs Tryz.prog w "internal/strconv.uint64pow10" .u64 Lib.pow10Tab) :
    Calls Tryz.prog 100 #[.int .u64 u] w fun e w' => e = .returned (.string (str (Lib.decDigits u))) ∧ Ext w w' := by
  have C := fmtu u hu w ht
  clear ht
  go_enter Tryz.func100, Tryz.ntmps100
  go_wp2_with fail
  refine C.mono ?_
  rintro e w1 ⟨rfl, k, os, rfl⟩
  go_wp2_with fail
  go_ret
  exact ⟨rfl, Ext.grow w k os⟩
/-- writer.Leaf. -/
theorem leaf_any (u : Nat) (hu : u < 18446744073709551616) (w : World) (ht : Lib.TabIs Tryz.prog w "internal/strconv.uint64pow10" .u64 Lib.pow10Tab) :
    Calls Tryz.prog 46 #[.int .u64 u] w fun e w' => e = .returned (.string (str leafB ++ str (Lib.decDigits u))) ∧ Ext w w' := by
  have C := decimal_any u hu w ht
  have hl : ¬ 9223372036854775807 < 5 + (Lib.decDigits u).length := by have := dec_len u hu; omega
  clear ht
  go_enter Tryz.func46, Tryz.ntmps46
  go_wp2_with fail
  refine C.mono ?_
  rintro e w1 ⟨rfl, hU⟩
  go_wp2_with fail
  go_ret
  exact ⟨rfl, hU⟩
/-- The document's. -/
theorem rleaf_any (u : Nat) (hu : u < 18446744073709551616) (w : World) :
    Calls Tryz.prog 158 #[.int .u64 u] w fun e w' => e = .returned (.string (str leafB ++ str (Lib.decDigits u))) ∧ Ext w w' := by
  have C := rdec_any u hu w
  have hl : ¬ 9223372036854775807 < 5 + (Lib.decDigits u).length := by have := dec_len u hu; omega
  go_enter Tryz.func158, Tryz.ntmps158
  go_wp2_with fail
  refine C.mono ?_
  rintro e w1 ⟨rfl, hU⟩
  go_wp2_with fail
  go_ret
  exact ⟨rfl, hU⟩

/-- What is told of a slot lasts. -/
def Lasts (p : Value → World → Prop) : Prop := ∀ v w w', p v w → Ext w w' → p v w'
/-- What the slots hold: a value, or something that is told of it. -/
def Slots3 (F : List (Value ⊕ (Value → World → Prop))) (i : Nat) (v : Value) (w : World) : Prop :=
  match F[i]? with
  | some (.inl x) => v = x
  | some (.inr p) => p v w
  | none => True
theorem Slots3.mono {F : List (Value ⊕ (Value → World → Prop))} (hF : ∀ p, .inr p ∈ F → Lasts p) (i : Nat) (v : Value) (w w' : World) (h : Slots3 F i v w) (u : Ext w w') : Slots3 F i v w' := by
  unfold Slots3 at *
  split <;> rename_i hq <;> rw [hq] at h
  · exact h
  · exact hF _ (List.mem_of_getElem? hq) _ _ _ h u
  · trivial
section
variable {P : Program} {l : List Oper} {w0 : World} {F : List (Value ⊕ (Value → World → Prop))} {a0 : Act} {i : Nat} {o : Oper}
def Hold3 (l : List Oper) (a0 a : Act) : Prop := ∀ t, (∀ o' ∈ l, o'.dst ≠ some t) → a.eval (.tmp t) = a0.eval (.tmp t)
def New3 (l : List Oper) (F : List (Value ⊕ (Value → World → Prop))) (o : Oper) (a : Act) (w : World) : Prop := ∀ j o' d, l[j]? = some o' → j ∈ afterOn o → o'.dst = some d → Slots3 F j (a.eval (.tmp d)) w
/-- What an operand holds when the operation runs. -/
def Kn3 (l : List Oper) (F : List (Value ⊕ (Value → World → Prop))) (a0 : Act) (o : Oper) (x : Operand) (v : Value) : Prop := ∀ a w, Hold3 l a0 a → New3 l F o a w → a.eval x = v
def writesNot3 (l : List Oper) (t : Nat) : Bool := l.all fun o => o.dst != some t
theorem kn_old3 (t : Nat) {v : Value} (hn : writesNot3 l t = true) (h : a0.eval (.tmp t) = v) : Kn3 l F a0 o (.tmp t) v := fun a w hH _ =>
  (hH t (fun o' ho' => by simpa using List.all_eq_true.1 hn o' ho')).trans h
theorem kn_new3 (j : Nat) {d : Nat} {v : Value} {o' : Oper} (h1 : l[j]? = some o') (h2 : o'.dst = some d) (h3 : (afterOn o).contains j = true) (h4 : F[j]? = some (.inl v)) : Kn3 l F a0 o (.tmp d) v := fun a w _ hN => by
  have := hN j o' d h1 (by simpa using h3) h2
  unfold Slots3 at this
  rw [h4] at this
  exact this
theorem kn_const3 {v : Value} : Kn3 l F a0 o (.const v) v := fun _ _ _ _ => rfl
/-- The operation is not guarded, or its guard holds. -/
def Gd3 (l : List Oper) (F : List (Value ⊕ (Value → World → Prop))) (a0 : Act) (o : Oper) : Prop :=
  ∀ a w, Hold3 l a0 a → New3 l F o a w → Region.wanted o (yielded l.toArray a.tmps) = true
theorem gd_none3 (h : o.guard = none) : Gd3 l F a0 o := fun a w _ _ => by unfold Region.wanted; rw [h]
theorem gd_some3 (j : Nat) {b : Bool} {d : Nat} {o' : Oper} (h : o.guard = some (j, b)) (h1 : l[j]? = some o') (h2 : o'.dst = some d) (h3 : (afterOn o).contains j = true) (h4 : F[j]? = some (.inl (.bool b))) : Gd3 l F a0 o := fun a w hH hN => by
  have he := kn_new3 (a0 := a0) j h1 h2 h3 h4 a w hH hN
  have ht : a.tmps[d]? = some (.bool b) := by
    have he : a.tmps.getD d undef = .bool b := he
    rw [Array.getD_eq_getD_getElem?] at he
    cases hq : a.tmps[d]? with
    | none => rw [hq] at he; simp [undef] at he
    | some x => rw [hq] at he; simpa using he
  unfold Region.wanted
  rw [h]
  simp [yielded, h1, h2, ht]
theorem ty_val3 {v : Value} (hg : Gd3 l F a0 o) (hF : F[i]? = some (.inl v)) (h : ∀ a w, Ext w0 w → Hold3 l a0 a → New3 l F o a w → (execOp a.eval o).run P w = .ok (.value v) w) : OpSpec P l w0 (Slots3 F) a0 i o := by
  intro a w hX hH hN
  rw [if_pos (hg a w hH hN), h a w hX hH hN]
  exact ⟨Upd.refl _ _, by unfold Slots3; rw [hF]⟩
theorem ty_move3 {x : Operand} {v : Value} (hg : Gd3 l F a0 o) (ho : o.op = .move x) (hF : F[i]? = some (.inl v)) (hx : Kn3 l F a0 o x v) : OpSpec P l w0 (Slots3 F) a0 i o :=
  ty_val3 hg hF (fun a w _ hH hN => by simp [execOp, ho, hx a w hH hN])
theorem ty_assign3 {x : Operand} {v : Value} (hg : Gd3 l F a0 o) (ho : o.op = .assign x) (hF : F[i]? = some (.inl v)) (hx : Kn3 l F a0 o x v) : OpSpec P l w0 (Slots3 F) a0 i o :=
  ty_val3 hg hF (fun a w _ hH hN => by simp [execOp, ho, hx a w hH hN])
theorem ty_not3 {x : Operand} {ty : TypeId} (b : Bool) (hg : Gd3 l F a0 o) (ho : o.op = .unOp .not ty x) (hF : F[i]? = some (.inl (.bool !b))) (hx : Kn3 l F a0 o x (.bool b)) : OpSpec P l w0 (Slots3 F) a0 i o :=
  ty_val3 hg hF (fun a w _ hH hN => by simp [execOp, ho, hx a w hH hN, Op.unary])
theorem ty_pickF3 {c x y : Operand} {v : Value} (hg : Gd3 l F a0 o) (ho : o.op = .pick c x y) (hF : F[i]? = some (.inl v)) (hc : Kn3 l F a0 o c (.bool false)) (hy : Kn3 l F a0 o y v) : OpSpec P l w0 (Slots3 F) a0 i o :=
  ty_val3 hg hF (fun a w _ hH hN => by simp [execOp, ho, hc a w hH hN, hy a w hH hN, asBool])
theorem ty_pickT3 {c x y : Operand} {v : Value} (hg : Gd3 l F a0 o) (ho : o.op = .pick c x y) (hF : F[i]? = some (.inl v)) (hc : Kn3 l F a0 o c (.bool true)) (hx : Kn3 l F a0 o x v) : OpSpec P l w0 (Slots3 F) a0 i o :=
  ty_val3 hg hF (fun a w _ hH hN => by simp [execOp, ho, hc a w hH hN, hx a w hH hN, asBool])
theorem ty_neqInt3 {x y : Operand} {ty tr : TypeId} (n : Int) (hg : Gd3 l F a0 o) (ho : o.op = .binOp .neq ty x y tr) (hF : F[i]? = some (.inl (.bool false))) (hx : Kn3 l F a0 o x (.int .i64 n)) (hy : Kn3 l F a0 o y (.int .i64 n)) : OpSpec P l w0 (Slots3 F) a0 i o :=
  ty_val3 hg hF (fun a w _ hH hN => by
    have h1 := hx a w hH hN
    have h2 := hy a w hH hN
    simp only [execOp, ho, h1, h2]
    simp [eqGuard, go_sem])
theorem ty_eqlInt3 {x y : Operand} {ty tr : TypeId} (n : Int) (hg : Gd3 l F a0 o) (ho : o.op = .binOp .eql ty x y tr) (hF : F[i]? = some (.inl (.bool true))) (hx : Kn3 l F a0 o x (.int .i64 n)) (hy : Kn3 l F a0 o y (.int .i64 n)) : OpSpec P l w0 (Slots3 F) a0 i o :=
  ty_val3 hg hF (fun a w _ hH hN => by
    have h1 := hx a w hH hN
    have h2 := hy a w hH hN
    simp only [execOp, ho, h1, h2]
    simp [eqGuard, go_sem])
theorem ty_neqAgg3 {x y : Operand} (ty tr : TypeId) (cs ds : Array Value) (hg : Gd3 l F a0 o) (ho : o.op = .binOp .neq ty x y tr) (hF : F[i]? = some (.inl (.bool false))) (hx : Kn3 l F a0 o x (.agg cs)) (hy : Kn3 l F a0 o y (.agg ds)) (hm : P.eqGuardType P.depth ty = false)
    (h : ∀ w, (Op.equalIn 10000 ty (.agg cs) (.agg ds)).run P w = .ok true w) : OpSpec P l w0 (Slots3 F) a0 i o :=
  ty_val3 hg hF (fun a w _ hH hN => by
    unfold execOp
    simp only [ho, hx a w hH hN, hy a w hH hN, Sem.run_bind, run_eqGuard_agg w _ _ _ _ _ _ hm, run_neq_struct, h, Result.andThen_ok, Sem.run_pure]
    rfl)
theorem ty_indexSlice3 {x ix : Operand} {t : TypeId} (g off len cap k sz : Nat) (e : TypeId) (hg : Gd3 l F a0 o) (ho : o.op = .indexAddr t x ix) (hF : F[i]? = some (.inl (.pointer (some ⟨g, off + k * sz, none⟩)))) (hx : Kn3 l F a0 o x (.slice (some ⟨g, off, none⟩) len cap)) (hi : Kn3 l F a0 o ix (.int .i64 k)) (hk : k < len)
    (hu : P.underlying t = some (.slice e)) (hs : (P.info? e).map (·.size) = some sz) : OpSpec P l w0 (Slots3 F) a0 i o :=
  ty_val3 hg hF (fun a w _ hH hN => by
    have hadd : (⟨g, off, none⟩ : Addr).add (k * sz) = ⟨g, off + k * sz, none⟩ := by unfold Addr.add; split <;> simp_all
    cases hq : P.info? e with
    | none => simp [hq] at hs
    | some i =>
      have his : i.size = sz := by simpa [hq] using hs
      have hk2 : (0 : Int) ≤ (k : Int) ∧ (k : Int) < len := by omega
      simp [execOp, ho, hx a w hH hN, hi a w hH hN, Instr.indexAt, run_underlying hu, asIntOf, sizeOf, typeInfo, hq, his, hk2, hk, hadd])
theorem ty_load13 {x : Operand} {ty : TypeId} (p : Addr) (v : Value) (hg : Gd3 l F a0 o) (ho : o.op = .load ty x) (hF : F[i]? = some (.inl v)) (hx : Kn3 l F a0 o x (.pointer (some p))) {d : TypeDesc} (hu : P.underlying ty = some d) (hd : aggD d = false)
    (hc : ∀ w, Ext w0 w → w.cell? p = some v) : OpSpec P l w0 (Slots3 F) a0 i o :=
  ty_val3 hg hF (fun a w hX hH hN => by
    have hc := hc w hX
    have hagg : (isAgg ty).run P w = .ok false w := by
      unfold isAgg
      rw [Sem.run_bind, run_underlying hu w]
      cases d <;> simp_all [aggD]
    simp [execOp, ho, hx a w hH hN, Instr.loadAt, Instr.sureAddr, loadVar, Sem.run_bind, hagg, hc])
theorem ty_loadAgg3 (ty : TypeId) {x : Operand} (g off : Nat) (vs : List Value) (hg : Gd3 l F a0 o) (ho : o.op = .load ty x) (hF : F[i]? = some (.inl (.agg vs.toArray))) (hx : Kn3 l F a0 o x (.pointer (some ⟨g, off, none⟩))) {d : TypeDesc} (hu : P.underlying ty = some d) (hd : aggD d = true)
    (hi : (P.info? ty).map (·.size) = some vs.length) (hc : ∀ w, Ext w0 w → ∀ j v, vs[j]? = some v → w.cell? ⟨g, off + j, none⟩ = some v) : OpSpec P l w0 (Slots3 F) a0 i o :=
  ty_val3 hg hF (fun a w hX hH hN => by simp only [execOp, ho, hx a w hH hN, Instr.loadAt, Instr.sureAddr, Sem.run_bind, Sem.run_pure, Result.andThen_ok, run_loadVar_at g off ty vs hu hd hi (hc w hX)])
theorem ty_call3 (f : FuncId) (args : List Operand) (ts : Array TypeId) (hg : Gd3 l F a0 o) (ho : o.op = .call { callee := .value (.func f), args := args.toArray, argTypes := ts }) (hb : hasBody P f = true)
    (C : ∀ a w, Ext w0 w → Hold3 l a0 a → New3 l F o a w → Calls P f (args.map a.eval).toArray w fun e w' => ∃ v, e = .returned v ∧ Ext w w' ∧ Slots3 F i v w') : OpSpec P l w0 (Slots3 F) a0 i o := by
  intro a w hX hH hN
  rw [if_pos (hg a w hH hN)]
  have hr : (execOp a.eval o).run P w = .ok (.enter f (args.map a.eval).toArray) w := by
    simp [execOp, ho, resolve, Deferred.ofValue, Act.eval, invoke]
    exact run_callFunc_body w f _ hb
  rw [hr]
  exact C a w hX hH hN
/-- A call of one operand that is known. -/
theorem ty_call13 (f : FuncId) (x : Operand) (ts : Array TypeId) (u : Value) (hg : Gd3 l F a0 o) (ho : o.op = .call { callee := .value (.func f), args := #[x], argTypes := ts }) (hb : hasBody P f = true) (hx : Kn3 l F a0 o x u)
    (C : ∀ w, Ext w0 w → Calls P f #[u] w fun e w' => ∃ v, e = .returned v ∧ Ext w w' ∧ Slots3 F i v w') : OpSpec P l w0 (Slots3 F) a0 i o :=
  ty_call3 f [x] ts hg ho hb (fun a w hX hH hN => by simp only [List.map_cons, List.map_nil, hx a w hH hN]; exact C w hX)
/-- Each operation from k on. -/
def SpecFrom3 (P : Program) (l : List Oper) (w0 : World) (Φ : Nat → Value → World → Prop) (a0 : Act) : Nat → List Oper → Prop
  | _, [] => True
  | k, o :: r => OpSpec P l w0 Φ a0 k o ∧ SpecFrom3 P l w0 Φ a0 (k + 1) r
theorem SpecFrom3.all {Φ : Nat → Value → World → Prop} : ∀ (r : List Oper) (k : Nat), SpecFrom3 P l w0 Φ a0 k r → ∀ i o, r[i]? = some o → OpSpec P l w0 Φ a0 (k + i) o
  | [], _, _, _, _, h => by simp at h
  | o' :: r, k, h, 0, o, ho => by
    have e : o' = o := by simpa using ho
    subst e
    exact h.1
  | o' :: r, k, h, i + 1, o, ho => by
    rw [show k + (i + 1) = k + 1 + i by omega]
    exact SpecFrom3.all r (k + 1) h.2 i o (by simpa using ho)
theorem region_slots3 {id : Nat} {Q : Exit → Act → World → Prop} {a : Act} {w : World} {l : List Oper} (F : List (Value ⊕ (Value → World → Prop))) (hmix : P.follows .mixedOrders = true) (hF : ∀ p, .inr p ∈ F → Lasts p) (ho : onceB l a.tmps.size = true) (hb : backB l = true) (spec : SpecFrom3 P l w (Slots3 F) a 0 l)
    (h : ∀ (v : Nat → Value) w', Ext w w' → (∀ i o d, l[i]? = some o → o.dst = some d → Slots3 F i (v i) w') → Q .normal (putAll v l 0 a) w') : (Code.region id l.toArray true).wp P Q a w :=
  region_typed (Slots3 F) hmix (Slots3.mono hF) ho hb (fun i o hi => by have := SpecFrom3.all l 0 spec i o hi; rwa [Nat.zero_add] at this) h
theorem q_norm3 {Q : Exit → Act → World → Prop} {x : Exit} {a a' : Act} {w : World} (h : a = a') (k : Q x a' w) : Q x a w := by
  subst h
  exact k
theorem slot_val3 {v : Value} {w : World} {x : Value} (h : Slots3 F i v w) (hF : F[i]? = some (.inl x)) : v = x := by
  unfold Slots3 at h
  rw [hF] at h
  exact h
end
section
variable {P : Program} {l : List Oper} {w0 : World} {F : List (Value ⊕ (Value → World → Prop))} {a0 : Act} {i : Nat} {o : Oper}
theorem ty_run3 (hg : Gd3 l F a0 o) (h : ∀ a w, Ext w0 w → Hold3 l a0 a → New3 l F o a w → ∃ v w', (execOp a.eval o).run P w = .ok (.value v) w' ∧ Ext w w' ∧ Slots3 F i v w') : OpSpec P l w0 (Slots3 F) a0 i o := by
  intro a w hX hH hN
  obtain ⟨v, w', hr, hu, hs⟩ := h a w hX hH hN
  rw [if_pos (hg a w hH hN), hr]
  exact ⟨hu, hs⟩
theorem ty_fieldAddr3 {x : Operand} {t : TypeId} {f : Nat} (vx v : Value) (hg : Gd3 l F a0 o) (ho : o.op = .fieldAddr t x f) (hF : F[i]? = some (.inl v)) (hx : Kn3 l F a0 o x vx) (hr : ∀ w : World, (Instr.fieldAt t vx f).run P w = .ok v w) : OpSpec P l w0 (Slots3 F) a0 i o :=
  ty_val3 hg hF (fun a w _ hH hN => by simp [execOp, ho, hx a w hH hN, hr w])
theorem known_call3 {f : FuncId} {args : Array Value} {w : World} {v : Value} (hF : F[i]? = some (.inl v)) (C : Calls P f args w fun e w' => e = .returned v ∧ Ext w w') : Calls P f args w fun e w' => ∃ r, e = .returned r ∧ Ext w w' ∧ Slots3 F i r w' :=
  C.mono (fun e w' ⟨h1, h2⟩ => ⟨v, h1, h2, by unfold Slots3; rw [hF]⟩)
theorem slot_prop3 {v : Value} {w : World} {p : Value → World → Prop} (h : Slots3 F i v w) (hF : F[i]? = some (.inr p)) : p v w := by
  unfold Slots3 at h
  rw [hF] at h
  exact h
/-- What a slot of which something is told holds when an operation that waits for it runs. -/
theorem new_prop3 (j : Nat) {d : Nat} {p : Value → World → Prop} {o' : Oper} {a : Act} {w : World} (hN : New3 l F o a w) (h1 : l[j]? = some o') (h2 : o'.dst = some d) (h3 : (afterOn o).contains j = true) (h4 : F[j]? = some (.inr p)) : p (a.eval (.tmp d)) w :=
  slot_prop3 (hN j o' d h1 (by simpa using h3) h2) h4
end
end Go.Proofs.YtnkcfkjeeennmaaGreatDoor
