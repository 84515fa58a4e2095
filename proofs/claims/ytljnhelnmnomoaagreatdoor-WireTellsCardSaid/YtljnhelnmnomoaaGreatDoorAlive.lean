/- The statements' alive: what the document says of some short ones. The walk of WireOnce. -/
import Derived.Test.YtljnhelnmnomoaaGreatDoorSame
import Derived.Test.YtljnhelnmnomoaaGreatDoorDecA
import Derived.Test.YtljnhelnmnomoaaGreatDoorOncePlain
import Derived.Deep.CutRange
import Derived.Deep.CutBlock
namespace Go.Proofs.YtljnhelnmnomoaaGreatDoor
open Go.RowKit Go.Lib


abbrev alQ : QryD := ⟨2, 3, 300, 0, 0, 0, 0, []⟩
abbrev alR : QryD := ⟨3, 1, 2, 1, 0, 0, 0, []⟩
abbrev alA : AnsD := ⟨2, 0, [], ⟨#[]⟩⟩
abbrev alB : AnsD := ⟨0, 5, [], ⟨#[97, 98]⟩⟩
theorem alQ_ok : alQ.Ok := ⟨by decide, by decide, by decide, by decide, by decide, by decide, by decide, by decide, fun s h => (by cases h)⟩
theorem alA_ok : alA.Ok := ⟨by decide, by decide, fun s h => (by cases h), by decide, by decide⟩
theorem alB_ok : alB.Ok := ⟨by decide, by decide, fun s h => (by cases h), by decide, by decide⟩
theorem al_1 : mayB alQ = true := by rfl
theorem al_2 : ¬ bigQ alQ.leaves := fun h => by rcases h with h | ⟨s, h, _⟩ | h <;> simp [sizes] at h
theorem al_3 : alQ.body = [2, 3, 172, 2] := by rfl
theorem al_4 : decQ ⟨#[3, 1, 1, 2]⟩ = (alR, none) := by rfl
theorem al_5 : decQ ⟨#[2, 0]⟩ = (zeroQ, some (3, some 1)) := by rfl
theorem al_6 : ¬ alA.bad := fun h => by rcases h with h | ⟨_, h | h | h⟩ <;> simp at h
theorem al_7 : decA ⟨#[0, 5, 0, 2, 97, 98]⟩ = (alB, none) := by rfl
theorem al_8 : isAtB (some (3, some 1)) 3 1 = true := by rfl
/-- EncodeQuery, as one contract. -/
theorem encQ_one {B : Nat} {se : Nat → Addr} {w : World} (G : Genv B se w) (A : Asks B w) (q : QryD) (hq : q.Ok) (ad : Option Addr) (ca : Nat) (hx : TextsAt w ad q.leaves) :
    Calls Tryz.prog 9 #[.agg (qCells q (.slice ad q.leaves.length ca)).toArray] w (EncQPost se w (qryB q) (qryE q)) :=
  encQ_any G A q hq ad ca hx _ _ (Lib.hid (fun h => ⟨by unfold qryB; rw [if_pos h], by unfold qryE; rw [if_pos h]⟩))
    (Lib.hid (fun h hb => have h1 : ¬ (mayB q = false) := by simp [h]
      ⟨by unfold qryB; rw [if_neg h1, if_pos hb], by unfold qryE; rw [if_neg h1, if_pos hb]⟩))
    (Lib.hid (fun h hb => have h1 : ¬ (mayB q = false) := by simp [h]
      ⟨by unfold qryB; rw [if_neg h1, if_neg hb], by unfold qryE; rw [if_neg h1, if_neg hb]⟩))
theorem al_q : qryB alQ = [2, 3, 172, 2] ∧ qryE alQ = none := by
  have h1 : ¬ (mayB alQ = false) := by rw [al_1]; simp
  exact ⟨by unfold qryB; rw [if_neg h1, if_neg al_2, al_3]; rfl, by unfold qryE; rw [if_neg h1, if_neg al_2, al_3]; rfl⟩
theorem al_a : ansB alA = [2] ∧ ansE alA = none :=
  have h1 : alA.code ≠ 0 := by decide
  ⟨by unfold ansB; rw [if_neg al_6, if_pos h1]; rfl, by unfold ansE; rw [if_neg al_6, if_pos h1]⟩
theorem body_sameQ : hasBody Tryz.prog 16 = true := by kernel_rfl

set_option maxRecDepth 8000 in
set_option maxHeartbeats 4000000 in
theorem alive_any {B : Nat} {se : Nat → Addr} {w : World} (G : Genv B se w) (A : Asks B w) : Calls Tryz.prog 13 #[] w fun e w' => e = .returned (.bool true) ∧ Ext w w' := by
  have C1 := encQ_one G A alQ alQ_ok none 0 (TextsAt.nil _ _)
  rw [al_q.1, al_q.2] at C1
  have HG := Lib.hid G
  have HA := Lib.hid A
  clear G A
  go_enter Tryz.func13, Tryz.ntmps13
  go_wp2_with fail
  refine C1.mono ?_
  rintro e w1 ⟨v, rfl, hv, u⟩
  obtain rfl : v = .nilIface := hv
  have C := (decQ_main (HG.out.ext u) (HA.out.ext u) ⟨#[3, 1, 1, 2]⟩ (by decide) 3 [1, 1, 2] rfl rfl).mono fun _ _ h => h.post
  rw [al_4] at C
  have HU := Lib.hid u
  clear u C1
  go_wp2_with fail
  refine C.mono ?_
  rintro e w2 ⟨a2, cap2, v2, rfl, ht2, hv2, u⟩
  obtain rfl : v2 = .nilIface := hv2
  simp only [qCells, List.length_nil]
  have X2 := (Upd.refl none' w2).alloc (.cells #[.int .u8 3, .int .u8 1, .int .u64 2, .int .u64 1, .int .u64 0, .int .u64 0, .int .u64 0, .slice a2 0 cap2] 27)
  have hb2 := blk_alloc w2 (.cells #[.int .u8 3, .int .u8 1, .int .u64 2, .int .u64 1, .int .u64 0, .int .u64 0, .int .u64 0, .slice a2 0 cap2] 27)
  have u3 := HU.out.trans (u.trans X2)
  have C3 := (decQ_main (HG.out.ext u3) (HA.out.ext u3) ⟨#[2, 0]⟩ (by decide) 2 [0] rfl rfl).mono fun _ _ h => h.post
  rw [al_5] at C3
  have HU := Lib.hid u3
  have HB2 := Lib.hid hb2
  clear u X2 u3 C ht2 hb2
  go_wp2_with fail
  refine C3.mono ?_
  rintro e w3 ⟨a3, cap3, v3, rfl, ht3, hv3, u⟩
  simp only [qCells, List.length_nil]
  have X3 := (Upd.refl none' w3).alloc (.cells #[.int .u8 0, .int .u8 0, .int .u64 0, .int .u64 0, .int .u64 0, .int .u64 0, .int .u64 0, .slice a3 0 cap3] 27)
  have u4 := HU.out.trans (u.trans X3)
  have HV3 := Lib.hid (hv3.ext X3)
  have HB3 := Lib.hid (Ext.blk X3 (Ext.blk u HB2.out))
  have C4 := encA_any (HG.out.ext u4) alA alA_ok none 0 (HashesAt.nil _ _)
  rw [al_a.1, al_a.2] at C4
  simp only [ansCells, List.length_nil] at C4
  have HU := Lib.hid u4
  obtain ⟨v3t, v3x, rfl⟩ : ∃ t x, v3 = .iface t x := by
    have hi := (err_form hv3).resolve_left (fun h => by simp at h)
    exact hi.1
  clear u X3 u4 ht3 hv3 C3 HB2
  go_wp2_with fail
  refine C4.mono ?_
  rintro e w4 ⟨v4, rfl, hv4, u⟩
  obtain rfl : v4 = .nilIface := hv4
  have u5 := HU.out.trans u
  have C5 := decA_any (HG.out.ext u5) ⟨#[0, 5, 0, 2, 97, 98]⟩ (by decide)
  rw [al_7] at C5
  have HV4 := Lib.hid (HV3.out.ext u)
  have HB4 := Lib.hid (Ext.blk u HB3.out)
  have HU := Lib.hid u5
  clear u u5 C4 HV3 HB3
  go_wp2_with fail
  refine C5.mono ?_
  rintro e w5 ⟨a5, cap5, v5, rfl, ht5, hv5, u⟩
  obtain rfl : v5 = .nilIface := hv5
  simp only [ansCells, List.length_nil]
  have X5 := (Upd.refl none' w5).alloc (.cells #[.int .u8 0, .int .u64 5, .slice a5 0 cap5, .string ⟨#[97, 98]⟩] 70)
  have hb5 := blk_alloc w5 (.cells #[.int .u8 0, .int .u64 5, .slice a5 0 cap5, .string ⟨#[97, 98]⟩] 70)
  have u6 := HU.out.trans (u.trans X5)
  have hbq := Ext.blk (u.trans X5) HB4.out
  have c0 := cell_of_blk hbq 0
  have c1 := cell_of_blk hbq 1
  have c2 := cell_of_blk hbq 2
  have c3 := cell_of_blk hbq 3
  have c4 := cell_of_blk hbq 4
  have c5 := cell_of_blk hbq 5
  have c6 := cell_of_blk hbq 6
  have c7 := cell_of_blk hbq 7
  simp only [List.size_toArray, List.getElem?_toArray, List.getElem?_cons_zero, List.getElem?_cons_succ] at c0 c1 c2 c3 c4 c5 c6 c7
  have HV5 := Lib.hid (HV4.out.ext (u.trans X5))
  have HU := Lib.hid u6
  have HB5 := Lib.hid hb5
  have CQ := sameQ_any (a := a2) (b := none) (w := w5.alloc (.cells #[.int .u8 0, .int .u64 5, .slice a5 0 cap5, .string ⟨#[97, 98]⟩] 70)) alR (by decide) (TextsAt.nil _ _) (TextsAt.nil _ _) cap2 0
  simp only [qCells, List.length_nil] at CQ
  clear u X5 u6 ht5 C5 HV4 HB4 hb5 hbq
  go_wp2_with fail
  refine CQ.mono ?_
  rintro e w6 ⟨rfl, u⟩
  have CI := isAt_any (HG.out.ext (HU.out.trans u)) (HV5.out.ext u) 3 1
  rw [al_8] at CI
  have hb6 := Ext.blk u HB5.out
  have HU := Lib.hid (HU.out.trans u)
  have HB6 := Lib.hid hb6
  clear u CQ hb6 HV5 c0 c1 c2 c3 c4 c5 c6 c7
  go_wp2_with fail
  refine CI.mono ?_
  rintro e w7 ⟨rfl, u⟩
  have hb7 := Ext.blk u HB6.out
  have c0 := cell_of_blk hb7 0
  have c1 := cell_of_blk hb7 1
  have c2 := cell_of_blk hb7 2
  have c3 := cell_of_blk hb7 3
  simp only [List.size_toArray, List.getElem?_toArray, List.getElem?_cons_zero, List.getElem?_cons_succ] at c0 c1 c2 c3
  have HU := Lib.hid (HU.out.trans u)
  have CS := sameA_any (a := a5) (b := none) (w := w7) alB alB_ok (HashesAt.nil _ _) (HashesAt.nil _ _) cap5 0
  simp only [ansCells, List.length_nil] at CS
  clear u hb7 CI HB6
  go_wp2_with fail
  refine CS.mono ?_
  rintro e w8 ⟨rfl, u⟩
  have HU := Lib.hid (HU.out.trans u)
  clear u CS c0 c1 c2 c3
  go_wp2_with fail
  go_ret
  exact ⟨rfl, HU.out⟩

set_option maxRecDepth 8000 in
/-- Beyond, of one length. -/
theorem beyond_one (b n : Nat) (hn : n ≤ 9223372036854775807) (w : World) (hb : w.heap[b]? = some (.cells #[.int .i64 n] 3 (0, 0))) : Calls Tryz.prog 6 #[.slice (some ⟨b, 0, none⟩) 1 1] w fun e w' => e = .returned (.bool (decide (1048576 < n))) ∧ w = w' := by
  have c0 := cell_of_blk hb 0
  simp only [List.size_toArray, List.getElem?_toArray, List.getElem?_cons_zero] at c0
  clear hb
  by_cases hm : 1048576 < n
  · have hd : decide (1048576 < n) = true := by simp [hm]
    have hmi : (1048576 : Int) < n := by omega
    rw [hd]
    clear hd hm
    go_enter Tryz.func6, Tryz.ntmps6
    go_wp2
    go_loopw [3, 4] (fun tv iv wr => tv = .int .i64 0 ∧ iv = .int .i64 0 ∧ w = wr) (fun _ iv _ => 1 - (RowKit.intOf iv).toNat)
    case atStart => exact ⟨rfl, rfl, rfl⟩
    case round =>
      obtain ⟨rfl, rfl, rfl⟩ := hrel
      go_wp2
      go_ret
      exact ⟨rfl, rfl⟩
  · have hd : decide (1048576 < n) = false := by simp [hm]
    have hmi : ¬ (1048576 : Int) < n := by omega
    rw [hd]
    clear hd hm
    go_enter Tryz.func6, Tryz.ntmps6
    go_wp2
    go_loopw [3, 4] (fun tv iv wr => ∃ j : Nat, j ≤ 1 ∧ iv = .int .i64 j ∧ tv = .int .i64 ((j * n : Nat) : Int) ∧ w = wr) (fun _ iv _ => 1 - (RowKit.intOf iv).toNat)
    case atStart => exact ⟨0, by omega, rfl, by simp, rfl⟩
    case round =>
      obtain ⟨j, hj, rfl, rfl, rfl⟩ := hrel
      by_cases h0 : j = 0
      · subst h0
        simp only [Nat.zero_mul]
        go_wp2
        refine ⟨⟨1, by omega, by simp, by simp, by first | rfl | trivial⟩, by simp [RowKit.intOf]⟩
      · obtain rfl : j = 1 := by omega
        go_wp2
        go_ret
        exact ⟨rfl, rfl⟩
/-- It holds nothing. -/
def emptyB (x : AnsD) : Bool := decide (x.size = 0) && (decide (x.hs.length = 0) && x.leaf.toList.isEmpty)
theorem bad_iff (x : AnsD) : x.bad ↔ 5 < x.code ∨ (x.code ≠ 0 ∧ emptyB x = false) := by
  unfold AnsD.bad emptyB
  have h1 : x.leaf.toList.isEmpty = true ↔ x.leaf = ⟨#[]⟩ := empty_yes x.leaf
  have h2 : (decide (x.size = 0) && (decide (x.hs.length = 0) && x.leaf.toList.isEmpty)) = false ↔ (x.size ≠ 0 ∨ 0 < x.hs.length ∨ x.leaf ≠ ⟨#[]⟩) := by
    rw [← Bool.not_eq_true, Bool.and_eq_true, Bool.and_eq_true, h1, decide_eq_true_iff, decide_eq_true_iff]
    constructor
    · intro h
      by_cases a : x.size = 0
      · by_cases b : x.hs.length = 0
        · exact .inr (.inr (fun c => h ⟨a, b, c⟩))
        · exact .inr (.inl (by omega))
      · exact .inl a
    · rintro (h | h | h) ⟨a, b, c⟩
      · exact h a
      · omega
      · exact h c
  rw [h2]
theorem is_two {v : Value} {se : Nat → Addr} {w : World} {B : Nat} (G : Genv B se w) (k : Nat) (hv : ErrIs se w v (some (k, none))) : Calls Tryz.prog 38 #[v, .int .i64 k] w fun e w' => e = .returned (.bool true) ∧ Ext w w' :=
  (is0_any G hv k).mono (by
    rintro e w' ⟨rfl, u⟩
    have e1 : (codeOf (some (k, none)) == (k : Int) && (!placed (some (k, none)) || placeOf (some (k, none)) == 0)) = true := by simp [codeOf, placed]
    rw [e1]; exact ⟨rfl, u⟩)
end Go.Proofs.YtljnhelnmnomoaaGreatDoor
