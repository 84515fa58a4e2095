/- The walk of WireOnce. -/
import Derived.Test.YtkdhjighomnooaaDoorAlive
import Derived.Test.YtkdhjighomnooaaDoorOncePlain
import Derived.Deep.CutRange
import Derived.Deep.CutBlock
namespace Go.Proofs.YtkdhjighomnooaaDoor
open Go.RowKit Go.Lib

set_option maxRecDepth 8000 in
/-- Beyond, of one length. -/
theorem beyond_one (b n : Nat) (hn : n ≤ 9223372036854775807) (w : World) (hb : w.heap[b]? = some (.cells #[.int .i64 n] 3 (0, 0))) : Calls Tryd.prog 7 #[.slice (some ⟨b, 0, none⟩) 1 1] w fun e w' => e = .returned (.bool (decide (1048576 < n))) ∧ w = w' := by
  have c0 := cell_of_blk hb 0
  simp only [List.size_toArray, List.getElem?_toArray, List.getElem?_cons_zero] at c0
  clear hb
  by_cases hm : 1048576 < n
  · have hd : decide (1048576 < n) = true := by simp [hm]
    have hmi : (1048576 : Int) < n := by omega
    rw [hd]
    clear hd hm
    go_enter Tryd.func7, Tryd.ntmps7
    go_wp2
    go_loopw [3, 4] (fun tv iv wr => tv = .int .i64 0 ∧ iv = .int .i64 0 ∧ w = wr) (fun _ iv _ => 1 - (RowKit.intOf iv).toNat)
    case atStart => exact ⟨rfl, rfl, rfl⟩
    case round =>
      obtain ⟨rfl, rfl, rfl⟩ := hrel
      go_wp2
      go_ret
      exact ⟨rfl, rfl⟩
  · have hd : decide (1048576 < n) = false := by simp [hm]
    have hmi : ¬ (1048576 : Int) < n := by omega
    rw [hd]
    clear hd hm
    go_enter Tryd.func7, Tryd.ntmps7
    go_wp2
    go_loopw [3, 4] (fun tv iv wr => ∃ j : Nat, j ≤ 1 ∧ iv = .int .i64 j ∧ tv = .int .i64 ((j * n : Nat) : Int) ∧ w = wr) (fun _ iv _ => 1 - (RowKit.intOf iv).toNat)
    case atStart => exact ⟨0, by omega, rfl, by simp, rfl⟩
    case round =>
      obtain ⟨j, hj, rfl, rfl, rfl⟩ := hrel
      by_cases h0 : j = 0
      · subst h0
        simp only [Nat.zero_mul]
        go_wp2
        refine ⟨⟨1, by omega, by simp, by simp, by first | rfl | trivial⟩, by simp [RowKit.intOf]⟩
      · obtain rfl : j = 1 := by omega
        go_wp2
        go_ret
        exact ⟨rfl, rfl⟩
/-- It holds nothing. -/
def emptyB (x : AnsD) : Bool := decide (x.size = 0) && (decide (x.hs.length = 0) && x.leaf.toList.isEmpty)
theorem bad_iff (x : AnsD) : x.bad ↔ 5 < x.code ∨ (x.code ≠ 0 ∧ emptyB x = false) := by
  unfold AnsD.bad emptyB
  have h1 : x.leaf.toList.isEmpty = true ↔ x.leaf = ⟨#[]⟩ := empty_yes x.leaf
  have h2 : (decide (x.size = 0) && (decide (x.hs.length = 0) && x.leaf.toList.isEmpty)) = false ↔ (x.size ≠ 0 ∨ 0 < x.hs.length ∨ x.leaf ≠ ⟨#[]⟩) := by
    rw [← Bool.not_eq_true, Bool.and_eq_true, Bool.and_eq_true, h1, decide_eq_true_iff, decide_eq_true_iff]
    constructor
    · intro h
      by_cases a : x.size = 0
      · by_cases b : x.hs.length = 0
        · exact .inr (.inr (fun c => h ⟨a, b, c⟩))
        · exact .inr (.inl (by omega))
      · exact .inl a
    · rintro (h | h | h) ⟨a, b, c⟩
      · exact h a
      · omega
      · exact h c
  rw [h2]
theorem is_two {v : Value} {se : Nat → Addr} {w : World} {B : Nat} (G : Genv B se w) (k : Nat) (hv : ErrIs se w v (some (k, none))) : Calls Tryd.prog 17 #[v, .int .i64 k] w fun e w' => e = .returned (.bool true) ∧ Ext w w' :=
  (is0_any G hv k).mono (by
    rintro e w' ⟨rfl, u⟩
    have e1 : (codeOf (some (k, none)) == (k : Int) && (!placed (some (k, none)) || placeOf (some (k, none)) == 0)) = true := by simp [codeOf, placed]
    rw [e1]; exact ⟨rfl, u⟩)
set_option maxRecDepth 8000 in
set_option maxHeartbeats 4000000 in
theorem once_any {B : Nat} {se : Nat → Addr} {w : World} (G : Genv B se w) (A : Asks B w) (x : AnsD) (hx : x.Ok) (ad : Option Addr) (ca : Nat) (hh : HashesAt w ad x.hs) (s : ByteArray) (hs : s.size ≤ 9223372036854775807) :
    Calls Tryd.prog 5 #[.agg (ansCells x (.slice ad x.hs.length ca)), .string s] w fun e w' => e = .returned (.bool true) ∧ Ext w w' := by
  have X := (Upd.refl none' w).alloc (.cells (ansCells x (.slice ad x.hs.length ca)) 26)
  have hb := blk_alloc w (.cells (ansCells x (.slice ad x.hs.length ca)) 26)
  have X2 := (X.alloc (.cells #[.int .i64 x.hs.length] 3))
  have hb2 := blk_alloc (w.alloc (.cells (ansCells x (.slice ad x.hs.length ca)) 26)) (.cells #[.int .i64 x.hs.length] 3)
  have CB := beyond_one _ x.hs.length hx.many _ hb2
  have hba := Ext.blk ((Upd.refl none' _).alloc (.cells #[.int .i64 x.hs.length] 3)) hb
  rw [World.size_alloc] at CB
  have CE := encA_any (G.ext X2) x hx ad ca (hh.later X2)
  have c0 := cell_of_blk hba 0
  have c1 := cell_of_blk hba 1
  have c2 := cell_of_blk hba 2
  have c3 := cell_of_blk hba 3
  simp only [ansCells] at X2 hba CB CE c0 c1 c2 c3 ⊢
  simp only [List.size_toArray, List.getElem?_toArray, List.getElem?_cons_zero, List.getElem?_cons_succ] at c0 c1 c2 c3
  have HX := Lib.hid X2
  have HBA := Lib.hid hba
  have HG := Lib.hid G
  have HA := Lib.hid A
  have HOK := Lib.hid hx
  have HHH := Lib.hid hh
  clear X X2 hb hb2 hba G A hx hh
  go_enter Tryd.func5, Tryd.ntmps5
  go_wp2_with fail
  refine CB.mono ?_
  rintro e w1 ⟨rfl, rfl⟩
  by_cases hbe : 1048576 < x.hs.length
  · have hd : decide (1048576 < x.hs.length) = true := by simp [hbe]
    rw [hd]
    clear CB CE hbe hd
    go_wp2_with fail
    go_ret
    exact ⟨rfl, HX.out⟩
  · have hd : decide (1048576 < x.hs.length) = false := by simp [hbe]
    rw [hd]
    have HBE := Lib.hid hbe
    clear CB hd hbe
    go_wp2_with fail
    refine CE.mono ?_
    rintro e w2 ⟨v, rfl, hv, u⟩
    have HV := Lib.hid hv
    have hba2 := Ext.blk u HBA.out
    have c0 := cell_of_blk hba2 0
    have c1 := cell_of_blk hba2 1
    have c2 := cell_of_blk hba2 2
    have c3 := cell_of_blk hba2 3
    simp only [List.size_toArray, List.getElem?_toArray, List.getElem?_cons_zero, List.getElem?_cons_succ] at c0 c1 c2 c3
    have HB2 := Lib.hid hba2
    have HU := Lib.hid (HX.out.trans u)
    clear u hba2 CE hv
    go_upto_region 4 with fail
    go_cut [7] from 22 to 35 (fun ev wx => ev = .bool (emptyB x) ∧ wx = w2)
    case first =>
      by_cases h1 : x.size = 0
      · have d1 : ((x.size : Int) == 0) = true := by simp [h1]
        by_cases h2 : x.hs.length = 0
        · have d2 : ((x.hs.length : Int) == 0) = true := by simp [h2]
          have e1 : emptyB x = x.leaf.toList.isEmpty := by unfold emptyB; simp [h1, h2]
          have HE1 := Lib.hid e1
          rw [h1] at c1
          rw [h2] at c2
          clear h1 h2 e1
          go_wp2_with fail
          go_meet
          exact ⟨by rw [HE1.out], rfl⟩
        · have d2 : ((x.hs.length : Int) == 0) = false := beq_eq_false_iff_ne.2 (by omega)
          have e1 : emptyB x = false := by unfold emptyB; simp [h2]
          have HE1 := Lib.hid e1
          rw [h1] at c1
          clear h1 h2 e1
          go_wp2_with fail
          go_meet
          exact ⟨by rw [HE1.out], rfl⟩
      · have d1 : ((x.size : Int) == 0) = false := by simp; omega
        have e1 : emptyB x = false := by unfold emptyB; simp [h1]
        have HE1 := Lib.hid e1
        clear h1 e1
        go_wp2_with fail
        go_meet
        exact ⟨by rw [HE1.out], rfl⟩
    case rest =>
      obtain ⟨rfl, rfl⟩ := hcut
      rename World => w2
      go_upto_block 0 with fail
      go_cut [5, 7, 8, 9] from 17 to 107 (fun v5 v7 v8 v9 wx => Ext w2 wx)
      case first =>
        have hbi := bad_iff x
        by_cases hbad : x.bad
        · obtain ⟨e1, e2⟩ := once_bad x hbad
          rw [e1] at HV
          have CI := is_two (k := 2) (HG.out.ext HU.out) HV.out
          rw [e2]
          have hcs := hbi.1 hbad
          clear hbi hbad e1 e2
          by_cases h5 : 5 < x.code
          · have d5 : (5 : Int) < x.code := by omega
            clear hcs h5
            go_wp2_with fail
            refine CI.mono ?_
            rintro e w3 ⟨rfl, u⟩
            have HU3 := Lib.hid u
            clear u CI
            go_wp2_with fail
            go_meet
            exact HU3.out
          · obtain ⟨hn0, hE⟩ := hcs.resolve_left h5
            have d5 : ¬ (5 : Int) < x.code := by omega
            have d0 : ((x.code : Int) != 0) = true := by simp; omega
            rw [hE]
            clear hcs h5 hn0 hE
            go_wp2_with fail
            refine CI.mono ?_
            rintro e w3 ⟨rfl, u⟩
            have HU3 := Lib.hid u
            clear u CI
            go_wp2_with fail
            go_meet
            exact HU3.out
        · have h5 : ¬ 5 < x.code := fun h => hbad (hbi.2 (.inl h))
          have d5 : ¬ (5 : Int) < x.code := by omega
          have hcs : x.code = 0 ∨ (x.code ≠ 0 ∧ emptyB x = true) := by
            by_cases h0 : x.code = 0
            · exact .inl h0
            · cases hE : emptyB x with
              | true => exact .inr ⟨h0, rfl⟩
              | false => exact absurd (hbi.2 (.inr ⟨h0, hE⟩)) hbad
          by_cases hno : ansE x = none
          · obtain ⟨b1, b2, b3⟩ := once_back x HOK.out hbad hno
            rw [hno] at HV
            obtain rfl : v = .nilIface := HV.out
            have hsz : ¬ (1048576 : Int) < (str (ansB x)).size := by rw [str_size]; omega
            have hlf : ¬ (65536 : Int) < x.leaf.size := by omega
            have C := decA_any (HG.out.ext HU.out) (str (ansB x)) (by rw [str_size]; omega)
            rw [b1] at C
            generalize str (ansB x) = bs at C hsz ⊢
            have HCS := Lib.hid hcs
            clear hbi hbad h5 b1 b2 b3 hno hcs
            have fin : Hid (∀ (w3 : World) (a3 : Option Addr) (cap3 : Nat), HashesAt w3 a3 x.hs → Ext w2 w3 → w3.heap[w.heap.size]? = some (.cells #[.int .u8 x.code, .int .u64 x.size, .slice ad x.hs.length ca, .string x.leaf] 26 (0, 0)) ∧ Ext w2 (w3.alloc (.cells #[.int .u8 x.code, .int .u64 x.size, .slice a3 x.hs.length cap3, .string x.leaf] 26)) ∧ Calls Tryd.prog 21 #[.agg #[.int .u8 x.code, .int .u64 x.size, .slice a3 x.hs.length cap3, .string x.leaf], .agg #[.int .u8 x.code, .int .u64 x.size, .slice ad x.hs.length ca, .string x.leaf]] (w3.alloc (.cells #[.int .u8 x.code, .int .u64 x.size, .slice a3 x.hs.length cap3, .string x.leaf] 26)) fun e w' => e = .returned (.bool true) ∧ Ext (w3.alloc (.cells #[.int .u8 x.code, .int .u64 x.size, .slice a3 x.hs.length cap3, .string x.leaf] 26)) w') :=
              Lib.hid (fun w3 a3 cap3 h3 u3 => by
                have X3 := (Upd.refl none' w3).alloc (.cells #[.int .u8 x.code, .int .u64 x.size, .slice a3 x.hs.length cap3, .string x.leaf] 26)
                exact ⟨Ext.blk u3 HB2.out, u3.trans X3, sameA_any x HOK.out (h3.later X3) (HHH.out.later (HU.out.trans (u3.trans X3))) cap3 ca⟩)
            rcases HCS.out with h0 | ⟨h0, hE⟩
            · have d0 : ((x.code : Int) != 0) = false := by simp; omega
              clear h0
              go_wp2_with fail
              refine C.mono ?_
              rintro e w3 ⟨a3, cap3, v3, rfl, h3, hv3, u⟩
              obtain rfl : v3 = .nilIface := hv3
              simp only [ansCells]
              obtain ⟨hb3, u3, CS⟩ := fin.out w3 a3 cap3 h3 u
              have hb4 := Ext.blk ((Upd.refl none' w3).alloc (.cells #[.int .u8 x.code, .int .u64 x.size, .slice a3 x.hs.length cap3, .string x.leaf] 26)) hb3
              have c0 := cell_of_blk hb4 0
              have c1 := cell_of_blk hb4 1
              have c2 := cell_of_blk hb4 2
              have c3 := cell_of_blk hb4 3
              simp only [List.size_toArray, List.getElem?_toArray, List.getElem?_cons_zero, List.getElem?_cons_succ] at c0 c1 c2 c3
              have HU3 := Lib.hid u3
              have HB3 := Lib.hid hb4
              clear h3 u u3 hb3 hb4 C fin
              go_wp2_with fail
              refine CS.mono ?_
              rintro e w4 ⟨rfl, u⟩
              have hb5 := Ext.blk u HB3.out
              have c3 := cell_of_blk hb5 3
              simp only [List.size_toArray, List.getElem?_toArray, List.getElem?_cons_zero, List.getElem?_cons_succ] at c3
              have HU4 := Lib.hid (HU3.out.trans u)
              clear u CS hb5 c0 c1 c2 HB3
              go_wp2_with fail
              go_meet
              exact HU4.out
            · have d0 : ((x.code : Int) != 0) = true := by simp; omega
              rw [hE]
              clear h0 hE
              go_wp2_with fail
              refine C.mono ?_
              rintro e w3 ⟨a3, cap3, v3, rfl, h3, hv3, u⟩
              obtain rfl : v3 = .nilIface := hv3
              simp only [ansCells]
              obtain ⟨hb3, u3, CS⟩ := fin.out w3 a3 cap3 h3 u
              have hb4 := Ext.blk ((Upd.refl none' w3).alloc (.cells #[.int .u8 x.code, .int .u64 x.size, .slice a3 x.hs.length cap3, .string x.leaf] 26)) hb3
              have c0 := cell_of_blk hb4 0
              have c1 := cell_of_blk hb4 1
              have c2 := cell_of_blk hb4 2
              have c3 := cell_of_blk hb4 3
              simp only [List.size_toArray, List.getElem?_toArray, List.getElem?_cons_zero, List.getElem?_cons_succ] at c0 c1 c2 c3
              have HU3 := Lib.hid u3
              have HB3 := Lib.hid hb4
              clear h3 u u3 hb3 hb4 C fin
              go_wp2_with fail
              refine CS.mono ?_
              rintro e w4 ⟨rfl, u⟩
              have hb5 := Ext.blk u HB3.out
              have c3 := cell_of_blk hb5 3
              simp only [List.size_toArray, List.getElem?_toArray, List.getElem?_cons_zero, List.getElem?_cons_succ] at c3
              have HU4 := Lib.hid (HU3.out.trans u)
              clear u CS hb5 c0 c1 c2 HB3
              go_wp2_with fail
              go_meet
              exact HU4.out
          · obtain ⟨e1, e2, e3⟩ := once_no x HOK.out hbad hno
            rw [e1] at HV
            have CI := is_two (k := 4) (HG.out.ext HU.out) HV.out
            obtain ⟨_, _, rfl⟩ := HV.out
            rw [e2]
            have d0 : ((x.code : Int) != 0) = false := by
              have : x.code = 0 := Classical.byContradiction fun h => hno (by unfold ansE; rw [if_neg hbad, if_pos h])
              simp; omega
            clear hbi hbad h5 e1 e2 hno hcs
            by_cases hl : x.leaf.size ≤ 65536
            · have dl : (x.leaf.size : Int) ≤ 65536 := by omega
              have hbe : (x.hs.length : Int) ≤ 1048576 := by have := HBE.out; omega
              have dm : (1048576 : Int) < wrap64 (wrap64 (wrap64 (32 * (x.hs.length : Int)) + x.leaf.size) + 60) := by unfold wrap64; omega
              have HL := Lib.hid hl
              clear e3 hl hbe
              go_wp2_with fail
              refine CI.mono ?_
              rintro e w3 ⟨rfl, u⟩
              have hb3 := Ext.blk u HB2.out
              have c2 := cell_of_blk hb3 2
              have c3 := cell_of_blk hb3 3
              simp only [List.size_toArray, List.getElem?_toArray, List.getElem?_cons_zero, List.getElem?_cons_succ] at c2 c3
              have HU3 := Lib.hid u
              clear u CI hb3
              go_wp2_with fail
              go_meet
              exact HU3.out
            · have dl : ¬ (x.leaf.size : Int) ≤ 65536 := by omega
              clear e3 hl
              go_wp2_with fail
              refine CI.mono ?_
              rintro e w3 ⟨rfl, u⟩
              have hb3 := Ext.blk u HB2.out
              have c2 := cell_of_blk hb3 2
              have c3 := cell_of_blk hb3 3
              simp only [List.size_toArray, List.getElem?_toArray, List.getElem?_cons_zero, List.getElem?_cons_succ] at c2 c3
              have HU3 := Lib.hid u
              clear u CI hb3
              go_wp2_with fail
              go_meet
              exact HU3.out
      case rest =>
        have HU3 := Lib.hid (HU.out.trans hcut)
        have C := decA_any (HG.out.ext HU3.out) s hs
        have HHS := Lib.hid hs
        clear hcut HU HB2 HV hs c0 c1 c2 c3
        generalize hdec : decA s = r at C
        obtain ⟨b, ee⟩ := r
        have HD := Lib.hid hdec
        clear hdec
        go_wp2_with fail
        refine C.mono ?_
        rintro e w4 ⟨a4, cap4, v4, rfl, h4, hv4, u4⟩
        simp only [ansCells]
        have X4 := (Upd.refl none' w4).alloc (.cells #[.int .u8 b.code, .int .u64 b.size, .slice a4 b.hs.length cap4, .string b.leaf] 26)
        have HU4 := Lib.hid (HU3.out.trans (u4.trans X4))
        have H4 := Lib.hid (h4.later X4)
        cases ee with
        | none =>
          obtain rfl : v4 = .nilIface := hv4
          obtain ⟨bok, be, bb⟩ := once_read HD.out
          have CE := encA_any (HG.out.ext HU4.out) b bok a4 cap4 H4.out
          rw [be, bb, str_toList] at CE
          simp only [ansCells] at CE
          clear h4 u4 X4 C bok be bb
          go_wp2_with fail
          refine CE.mono ?_
          rintro e w5 ⟨v5, rfl, hv5, u5⟩
          obtain rfl : v5 = .nilIface := hv5
          have CA := alive_any (HG.out.ext (HU4.out.trans u5)) (HA.out.ext (HU4.out.trans u5))
          have HU5 := Lib.hid (HU4.out.trans u5)
          clear u5 CE
          go_wp2_with fail
          refine CA.mono ?_
          rintro e w6 ⟨rfl, u6⟩
          have HU6 := Lib.hid (HU5.out.trans u6)
          clear u6 CA
          go_wp2_with fail
          go_ret
          exact ⟨rfl, HU6.out⟩
        | some ee =>
          obtain rfl := once_zero HD.out
          have hi := (err_form hv4).resolve_left (fun h => by simp at h)
          obtain ⟨⟨ti, yi, rfl⟩, _⟩ := hi
          have CS := sameA_any (a := a4) (b := none) (w := w4.alloc (.cells #[.int .u8 0, .int .u64 0, .slice a4 0 cap4, .string ⟨#[]⟩] 26)) zeroA ⟨by decide, by decide, fun t ht => (by cases ht), by decide, by decide⟩ (HashesAt.nil _ _) (HashesAt.nil _ _) cap4 0
          simp only [ansCells, List.length_nil] at CS
          clear h4 hv4 u4 X4 C
          go_wp2_with fail
          refine CS.mono ?_
          rintro e w5 ⟨rfl, u5⟩
          have CA := alive_any (HG.out.ext (HU4.out.trans u5)) (HA.out.ext (HU4.out.trans u5))
          have HU5 := Lib.hid (HU4.out.trans u5)
          clear u5 CS
          go_wp2_with fail
          refine CA.mono ?_
          rintro e w6 ⟨rfl, u6⟩
          have HU6 := Lib.hid (HU5.out.trans u6)
          clear u6 CA
          go_wp2_with fail
          go_ret
          exact ⟨rfl, HU6.out⟩
end Go.Proofs.YtkdhjighomnooaaDoor
