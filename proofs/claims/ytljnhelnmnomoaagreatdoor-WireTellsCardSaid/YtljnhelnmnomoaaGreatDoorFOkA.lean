/- What wire's reader of answers gives: the fault's number and place are in order; how many hashes. The walk of WireTells. PRINTED by wip/tools/gen_tells.py. -/
import Derived.Test.YtljnhelnmnomoaaGreatDoorFOk
import Derived.Test.YtljnhelnmnomoaaGreatDoorOncePlain
import Derived.Test.YtljnhelnmnomoaaGreatDoorMarkH
import Derived.Test.YtljnhelnmnomoaaGreatDoorRefT
import Derived.Test.YtljnhelnmnomoaaGreatDoorAlive
namespace Go.Proofs.YtljnhelnmnomoaaGreatDoor
open Go.RowKit Go.Lib


theorem fok_hs : ∀ (n : Nat) (x : RdD), FOk x.f → FOk (decHs n x).2.f
  | 0, _, h => h
  | n + 1, x, h => by
    unfold decHs
    split
    · exact fok_hash h
    · exact fok_hs n _ (fok_hash h)
theorem fok_decA (s : ByteArray) : FOk (decA s).2 := by
  unfold decA
  split
  · exact fok_lim
  · split
    · exact fok_in 0
    · split
      · exact fok_in 0
      · simp only
        split
        · split
          · exact fok_none
          · exact fok_fin (fok_text (fok_hs _ _ (fok_var (fok_var fok_none))) _)
        · split
          · exact fok_none
          · exact fok_fin fok_none
theorem decA_ok (s : ByteArray) : (decA s).1.Ok ∧ (decA s).1.hs.length ≤ 1048576 := by
  cases hd : decA s with
  | mk b e =>
    cases e with
    | some e =>
      obtain rfl := once_zero hd
      exact (show zeroA.Ok ∧ zeroA.hs.length ≤ 1048576 from ⟨⟨by decide, by decide, fun h hh => by simp at hh, by decide, by decide⟩, by decide⟩)
    | none =>
      obtain ⟨h1, h2, _⟩ := once_read hd
      refine ⟨h1, ?_⟩
      show b.hs.length ≤ _
      unfold ansE at h2
      split at h2
      · cases h2
      · rename_i hb
        split at h2
        · rename_i h0
          have : ¬ 0 < b.hs.length := fun hp => hb (.inr ⟨h0, .inr (.inl hp)⟩)
          omega
        · split at h2
          · cases h2
          · rename_i h3; omega
theorem lit_a : decA ⟨#[0, 5, 0, 2, 97, 98]⟩ = (⟨0, 5, [], ⟨#[97, 98]⟩⟩, none) := by rfl

/-- A book that hashes alone were told. -/
def bookH (N : Int) (tv : Value) : List Value := [.int .i64 N, .slice none 0 0, .slice none 0 0, .slice none 0 0, .slice none 0 0, tv, .slice none 0 0, .slice none 0 0, .slice none 0 0, .slice none 0 0, .slice none 0 0, .slice none 0 0, .slice none 0 0, .slice none 0 0, .slice none 0 0, .slice none 0 0, .slice none 0 0]
theorem bookH_nil (N : Int) (tv : Value) (c : Nat) (h1 : 1 ≤ c) (h2 : c ≤ 16) (h3 : c ≠ 5) : (bookH N tv).toArray[c]? = some (.slice none 0 0) := by
  rcases (show c = 1 ∨ c = 2 ∨ c = 3 ∨ c = 4 ∨ c = 6 ∨ c = 7 ∨ c = 8 ∨ c = 9 ∨ c = 10 ∨ c = 11 ∨ c = 12 ∨ c = 13 ∨ c = 14 ∨ c = 15 ∨ c = 16 by omega) with rfl | rfl | rfl | rfl | rfl | rfl | rfl | rfl | rfl | rfl | rfl | rfl | rfl | rfl | rfl <;> rfl
theorem hashes_any {B b N : Nat} {W : World} {tv v : Value} {L : List HeldD} {C : Nat → List Value} {n : Nat} {xs : List Value} (hb : W.heap[b]? = some (.cells (bookH N tv).toArray 64 (0, 0)))
    (H : HoldH B W tv L C) (hv : W.ownsRow B 120 32 v n xs) (hsep : ∀ (i : Nat) h g, L[i]? = some h → v.ownBlock = some g → h.v.ownBlock ≠ some g) (hB : B ≤ W.heap.size) (hN : N ≤ 1000000) (hn : L.length ≤ 1000000) :
    Calls Tryz.prog 109 #[.pointer (some ⟨b, 0, none⟩), v] W fun e W' => e = .returned (.tuple #[]) ∧ ∃ tv', HoldH B W' tv' (L ++ [⟨v, .slice none 0 0, n, N + 1⟩]) (fun j => if j = L.length then xs else C j) ∧
      W'.heap[b]? = some (.cells (bookH ((N + 1 : Nat) : Int) tv').toArray 64 (0, 0)) ∧ Upd (fun g => g = b ∨ tv.ownBlock = some g) W W' := by
  have CK := keepH_any hb rfl rfl H hv hsep hB hN hn
  clear hb H hv hsep
  go_enter Tryz.func109, Tryz.ntmps109
  go_wp2_with fail
  refine CK.mono ?_
  rintro e w' ⟨rfl, h⟩
  have HH := Lib.hid h
  clear h CK
  go_wp2_with fail
  go_end0
  exact ⟨rfl, HH.out⟩
theorem answer_any {B b N : Nat} {W : World} {tv v : Value} {L : List HeldD} {C : Nat → List Value} {n : Nat} {xs : List Value} (hb : W.heap[b]? = some (.cells (bookH N tv).toArray 64 (0, 0)))
    (H : HoldH B W tv L C) (hv : W.ownsRow B 120 32 v n xs) (hsep : ∀ (i : Nat) h g, L[i]? = some h → v.ownBlock = some g → h.v.ownBlock ≠ some g) (hB : B ≤ W.heap.size) (hN : N ≤ 1000000) (hn : L.length ≤ 1000000) (cd sz : Int) (leaf : ByteArray) :
    Calls Tryz.prog 22 #[.pointer (some ⟨b, 0, none⟩), .agg #[.int .u8 cd, .int .u64 sz, v, .string leaf]] W fun e W' => e = .returned (.tuple #[]) ∧ ∃ tv', HoldH B W' tv' (L ++ [⟨v, .slice none 0 0, n, N + 1⟩]) (fun j => if j = L.length then xs else C j) ∧
      W'.heap[b]? = some (.cells (bookH ((N + 1 : Nat) : Int) tv').toArray 64 (0, 0)) ∧ Upd (fun g => g = b ∨ tv.ownBlock = some g) W W' := by
  have X := (Upd.refl none' W).alloc (.cells #[.int .u8 cd, .int .u64 sz, v, .string leaf] 70)
  have CK := hashes_any (Ext.blk X hb) (H.ext X) (ownsRow_upd hv X (fun _ _ e => e)) hsep (Nat.le_trans hB X.size) hN hn
  have HX := Lib.hid X
  clear hb H hv hsep X
  go_enter Tryz.func22, Tryz.ntmps22
  go_wp2_with fail
  refine CK.mono ?_
  rintro e w' ⟨rfl, tv', h1, h2, u⟩
  have HH := Lib.hid h1
  have HK := Lib.hid h2
  have HU := Lib.hid ((HX.out.mono (T := fun g => g = b ∨ tv.ownBlock = some g) (fun _ _ h => h.elim)).trans u)
  clear h1 h2 u CK
  go_wp2_with fail
  go_end0
  exact ⟨rfl, tv', HH.out, HK.out, HU.out⟩

set_option maxRecDepth 8000 in
set_option maxHeartbeats 8000000 in
theorem tells_any {B : Nat} {se : Nat → Addr} {w : World} (G : Genv B se w) (A : Asks B w) (s : ByteArray) (hs : s.size ≤ 9223372036854775807) :
    Calls Tryz.prog 5 #[.string s] w fun e w' => e = .returned (.bool true) ∧ Ext w w' := by
  have C1 := refT_any s hs w
  obtain ⟨q, ee, hqe⟩ : ∃ q ee, decA s = (q, ee) := ⟨_, _, rfl⟩
  have HFO := Lib.hid (show FOk ee by have := fok_decA s; rwa [hqe] at this)
  have hok := decA_ok s
  rw [hqe] at hok
  obtain ⟨hqo, hmany⟩ := hok
  simp only at hqo hmany
  rw [hqe] at C1
  have HQE := Lib.hid hqe
  have HG := Lib.hid G
  have HA := Lib.hid A
  have HS := Lib.hid hs
  clear G A hqe hs
  go_enter Tryz.func5, Tryz.ntmps5
  go_wp2_with fail
  refine C1.mono ?_
  rintro e w1 ⟨a0, cap0, rfl, ht, u⟩
  simp only [ansCells]
  have X := ((Upd.refl none' w1).alloc (.cells #[.int .u8 q.code, .int .u64 q.size, .slice a0 q.hs.length cap0, .string q.leaf] 70)).alloc (.cells #[.int .i64 (efC ee), .int .i64 (efA ee)] 36)
  have HB3 := Lib.hid (blk_alloc_lt (blk_alloc w1 (.cells #[.int .u8 q.code, .int .u64 q.size, .slice a0 q.hs.length cap0, .string q.leaf] 70)) (.cells #[.int .i64 (efC ee), .int .i64 (efA ee)] 36))
  have hb4 := blk_alloc (w1.alloc (.cells #[.int .u8 q.code, .int .u64 q.size, .slice a0 q.hs.length cap0, .string q.leaf] 70)) (.cells #[.int .i64 (efC ee), .int .i64 (efA ee)] 36)
  rw [World.size_alloc] at hb4
  have HB4 := Lib.hid hb4
  have HT0 := Lib.hid (ht.later X)
  have U := u.trans X
  have HU1 := Lib.hid U
  have C2 := decA_own (HG.out.ext U) s HS.out
  rw [HQE.out] at C2
  clear X hb4 ht u U C1
  go_wp2_with fail
  refine C2.mono ?_
  rintro e w2 ⟨a1, cap1, v1, rfl, ht, hv, u, ho⟩
  simp only [ansCells]
  have X := (Upd.refl none' w2).alloc (.cells #[.int .u8 q.code, .int .u64 q.size, .slice a1 q.hs.length cap1, .string q.leaf] 70)
  have U := HU1.out.trans (u.trans X)
  have HL1 := Lib.hid (fun g hg => show w.heap.size ≤ g ∧ g < w2.heap.size from ⟨Nat.le_trans HU1.out.size (ho.lt g hg).1, (ho.lt g hg).2⟩)
  have HO1 := Lib.hid (own_baseA (ownsRow_upd ho X (fun _ _ e => e)) HU1.out.size)
  have HB5 := Lib.hid (blk_alloc w2 (.cells #[.int .u8 q.code, .int .u64 q.size, .slice a1 q.hs.length cap1, .string q.leaf] 70))
  have HB3 := Lib.hid (Ext.blk (u.trans X) HB3.out)
  have HB4 := Lib.hid (Ext.blk (u.trans X) HB4.out)
  have HT0 := Lib.hid (HT0.out.later (u.trans X))
  have HT1 := Lib.hid (ht.later X)
  have HV1 := Lib.hid (hv.ext X)
  have HU2 := Lib.hid U
  have HSZ2 := Lib.hid X.size
  have C3 := decA_own (HG.out.ext U) ⟨#[0, 5, 0, 2, 97, 98]⟩ (by decide)
  rw [lit_a] at C3
  clear X ht hv u U ho C2
  go_wp2_with fail
  refine C3.mono ?_
  rintro e w3 ⟨a2, cap2, v2, rfl, ht, hv, u, ho⟩
  simp only [ansCells, List.length_nil] at ho ⊢
  have X := (Upd.refl none' w3).alloc (.cells #[.int .u8 0, .int .u64 5, .slice a2 0 cap2, .string ⟨#[97, 98]⟩] 70)
  have U := HU2.out.trans (u.trans X)
  have HL2 := Lib.hid (fun g hg => show w2.heap.size ≤ g ∧ g < w3.heap.size from ⟨Nat.le_trans HSZ2.out (ho.lt g hg).1, (ho.lt g hg).2⟩)
  have HO2 := Lib.hid (own_baseA (ownsRow_upd ho X (fun _ _ e => e)) HU2.out.size)
  have HO1 := Lib.hid (ownsRow_upd HO1.out (u.trans X) (fun _ _ e => e))
  have HB7 := Lib.hid (blk_alloc w3 (.cells #[.int .u8 0, .int .u64 5, .slice a2 0 cap2, .string ⟨#[97, 98]⟩] 70))
  have HB3 := Lib.hid (Ext.blk (u.trans X) HB3.out)
  have HB4 := Lib.hid (Ext.blk (u.trans X) HB4.out)
  have HB5 := Lib.hid (Ext.blk (u.trans X) HB5.out)
  have HT0 := Lib.hid (HT0.out.later (u.trans X))
  have HT1 := Lib.hid (HT1.out.later (u.trans X))
  have HV1 := Lib.hid (HV1.out.ext (u.trans X))
  have HU3 := Lib.hid U
  have HSZ3 := Lib.hid X.size
  have HS23 := Lib.hid (Nat.le_trans HSZ2.out u.size)
  have C4 := decA_own (HG.out.ext U) s HS.out
  rw [HQE.out] at C4
  clear X ht hv u U ho C3
  go_wp2_with fail
  refine C4.mono ?_
  rintro e w4 ⟨a3, cap3, v3, rfl, ht, hv, u, ho⟩
  simp only [ansCells]
  have X := (Upd.refl none' w4).alloc (.cells #[.int .u8 q.code, .int .u64 q.size, .slice a3 q.hs.length cap3, .string q.leaf] 70)
  have U := HU3.out.trans (u.trans X)
  have HL3 := Lib.hid (fun g hg => show w3.heap.size ≤ g ∧ g < w4.heap.size from ⟨Nat.le_trans HSZ3.out (ho.lt g hg).1, (ho.lt g hg).2⟩)
  have HO3 := Lib.hid (own_baseA (ownsRow_upd ho X (fun _ _ e => e)) HU3.out.size)
  have HO1 := Lib.hid (ownsRow_upd HO1.out (u.trans X) (fun _ _ e => e))
  have HO2 := Lib.hid (ownsRow_upd HO2.out (u.trans X) (fun _ _ e => e))
  have HB9 := Lib.hid (blk_alloc w4 (.cells #[.int .u8 q.code, .int .u64 q.size, .slice a3 q.hs.length cap3, .string q.leaf] 70))
  have HB3 := Lib.hid (Ext.blk (u.trans X) HB3.out)
  have hb4 := Ext.blk (u.trans X) HB4.out
  have HB5 := Lib.hid (Ext.blk (u.trans X) HB5.out)
  have HB7 := Lib.hid (Ext.blk (u.trans X) HB7.out)
  have HT0 := Lib.hid (HT0.out.later (u.trans X))
  have HT1 := Lib.hid (HT1.out.later (u.trans X))
  have HT3 := Lib.hid (ht.later X)
  have HV1 := Lib.hid (HV1.out.ext (u.trans X))
  have HV3 := Lib.hid (hv.ext X)
  have HU4 := Lib.hid U
  have HB4 := Lib.hid hb4
  have C5 := same_any (HG.out.ext U) HV1.out (efC ee) (efA ee)
  rw [HFO.out.sameE] at C5
  have f0 := cell_of_blk hb4 0
  have f1 := cell_of_blk hb4 1
  simp only [List.size_toArray, List.getElem?_toArray, List.getElem?_cons_zero, List.getElem?_cons_succ] at f0 f1
  clear X ht hv u U ho hb4 C4
  generalize hW5 : w4.alloc (.cells #[.int .u8 q.code, .int .u64 q.size, .slice a3 q.hs.length cap3, .string q.leaf] 70) = W5 at *
  generalize hS4 : w4.heap.size = z4 at *
  go_wp2_with fail
  refine C5.mono ?_
  rintro e w6 ⟨rfl, u⟩
  have U := HU4.out.trans u
  have hb4 := Ext.blk u HB4.out
  have HV3 := Lib.hid (HV3.out.ext u)
  have C6 := same_any (HG.out.ext U) HV3.out (efC ee) (efA ee)
  rw [HFO.out.sameE] at C6
  have f0 := cell_of_blk hb4 0
  have f1 := cell_of_blk hb4 1
  simp only [List.size_toArray, List.getElem?_toArray, List.getElem?_cons_zero, List.getElem?_cons_succ] at f0 f1
  have HU6 := Lib.hid u
  clear u U hb4 C5
  go_wp2_with fail
  refine C6.mono ?_
  rintro e w7 ⟨rfl, u⟩
  have U := HU6.out.trans u
  have hb3 := Ext.blk U HB3.out
  have hb5 := Ext.blk U HB5.out
  have C7 := sameA_any q hqo (HT1.out.later U) (HT0.out.later U) cap1 cap0
  simp only [ansCells] at C7
  have c0 := cell_of_blk hb3 0
  have c1 := cell_of_blk hb3 1
  have c2 := cell_of_blk hb3 2
  have c3 := cell_of_blk hb3 3
  simp only [List.size_toArray, List.getElem?_toArray, List.getElem?_cons_zero, List.getElem?_cons_succ] at c0 c1 c2 c3
  have d0 := cell_of_blk hb5 0
  have d1 := cell_of_blk hb5 1
  have d2 := cell_of_blk hb5 2
  have d3 := cell_of_blk hb5 3
  simp only [List.size_toArray, List.getElem?_toArray, List.getElem?_cons_zero, List.getElem?_cons_succ] at d0 d1 d2 d3
  have HU7 := Lib.hid U
  clear u U hb3 hb5 C6 f0 f1
  go_wp2_with fail
  refine C7.mono ?_
  rintro e w8 ⟨rfl, u⟩
  have U := HU7.out.trans u
  have hb3 := Ext.blk U HB3.out
  have hb9 := Ext.blk U HB9.out
  have C8 := sameA_any q hqo (HT3.out.later U) (HT0.out.later U) cap3 cap0
  simp only [ansCells] at C8
  clear c0 c1 c2 c3 d0 d1 d2 d3
  have c0 := cell_of_blk hb3 0
  have c1 := cell_of_blk hb3 1
  have c2 := cell_of_blk hb3 2
  have c3 := cell_of_blk hb3 3
  simp only [List.size_toArray, List.getElem?_toArray, List.getElem?_cons_zero, List.getElem?_cons_succ] at c0 c1 c2 c3
  have d0 := cell_of_blk hb9 0
  have d1 := cell_of_blk hb9 1
  have d2 := cell_of_blk hb9 2
  have d3 := cell_of_blk hb9 3
  simp only [List.size_toArray, List.getElem?_toArray, List.getElem?_cons_zero, List.getElem?_cons_succ] at d0 d1 d2 d3
  have HU8 := Lib.hid U
  clear u U hb3 hb9 C7
  go_wp2_with fail
  refine C8.mono ?_
  rintro e w9 ⟨rfl, u⟩
  have U := HU8.out.trans u
  have X := (Upd.refl none' w9).alloc (.cells #[.int .i64 0, .slice none 0 0, .slice none 0 0, .slice none 0 0, .slice none 0 0, .slice none 0 0, .slice none 0 0, .slice none 0 0, .slice none 0 0, .slice none 0 0, .slice none 0 0, .slice none 0 0, .slice none 0 0, .slice none 0 0, .slice none 0 0, .slice none 0 0, .slice none 0 0] 64)
  have hbk := blk_alloc w9 (.cells #[.int .i64 0, .slice none 0 0, .slice none 0 0, .slice none 0 0, .slice none 0 0, .slice none 0 0, .slice none 0 0, .slice none 0 0, .slice none 0 0, .slice none 0 0, .slice none 0 0, .slice none 0 0, .slice none 0 0, .slice none 0 0, .slice none 0 0, .slice none 0 0, .slice none 0 0] 64)
  have U10 := U.trans X
  have HB5 := Lib.hid (Ext.blk U10 HB5.out)
  have HB7 := Lib.hid (Ext.blk U10 HB7.out)
  have HB9 := Lib.hid (Ext.blk U10 HB9.out)
  have HO1 := Lib.hid (ownsRow_upd HO1.out U10 (fun _ _ e => e))
  have HO2 := Lib.hid (ownsRow_upd HO2.out U10 (fun _ _ e => e))
  have HO3 := Lib.hid (ownsRow_upd HO3.out U10 (fun _ _ e => e))
  have HU10 := Lib.hid (HU4.out.trans U10)
  have HBW := Lib.hid (Nat.le_trans HU4.out.size U.size)
  have HBK0 := Lib.hid hbk
  clear U X U10 hbk C8 c0 c1 c2 c3 d0 d1 d2 d3 u
  go_upto_region 8 with fail
  generalize hbb : w9.heap.size = bk at *
  generalize hW10 : w9.alloc (.cells #[.int .i64 0, .slice none 0 0, .slice none 0 0, .slice none 0 0, .slice none 0 0, .slice none 0 0, .slice none 0 0, .slice none 0 0, .slice none 0 0, .slice none 0 0, .slice none 0 0, .slice none 0 0, .slice none 0 0, .slice none 0 0, .slice none 0 0, .slice none 0 0, .slice none 0 0] 64) = W10 at *
  have HK0 : HoldH w.heap.size W10 (.slice none 0 0) [] (fun _ => []) := ⟨own_nilA, fun i h hi => by simp at hi, fun i j h h' g hi => by simp at hi⟩
  have CK := answer_any (N := 0) HBK0.out HK0 HO1.out (fun i h g hi => by simp at hi) HU10.out.size (by decide) (by decide) q.code q.size q.leaf
  have hbx := HB5.out
  have d0 := cell_of_blk hbx 0
  have d1 := cell_of_blk hbx 1
  have d2 := cell_of_blk hbx 2
  have d3 := cell_of_blk hbx 3
  simp only [List.size_toArray, List.getElem?_toArray, List.getElem?_cons_zero, List.getElem?_cons_succ] at d0 d1 d2 d3
  clear hbx
  have HNB5 := Lib.hid (show w2.heap.size ≠ bk from fun e => by
    have h1 := HB5.out; rw [e, HBK0.out] at h1
    simp only [Option.some.injEq, Obj.cells.injEq] at h1
    exact absurd h1.2.1 (by decide))
  have HNB7 := Lib.hid (show w3.heap.size ≠ bk from fun e => by
    have h1 := HB7.out; rw [e, HBK0.out] at h1
    simp only [Option.some.injEq, Obj.cells.injEq] at h1
    exact absurd h1.2.1 (by decide))
  have HNB9 := Lib.hid (show z4 ≠ bk from fun e => by
    have h1 := HB9.out; rw [e, HBK0.out] at h1
    simp only [Option.some.injEq, Obj.cells.injEq] at h1
    exact absurd h1.2.1 (by decide))
  clear HK0
  go_wp2_with fail
  refine CK.mono ?_
  rintro e w11 ⟨rfl, tv1, H1, hbk, u⟩
  simp only [List.nil_append, List.length_nil] at H1
  have hS : ∀ g, (g = bk ∨ (Value.slice none 0 0).ownBlock = some g) → g = bk := fun g h => h.elim id (fun h => by cases h)
  have HB7 := Lib.hid (u.blk HB7.out (fun h => HNB7.out (hS _ h)))
  have HB9 := Lib.hid (u.blk HB9.out (fun h => HNB9.out (hS _ h)))
  have HO2 := Lib.hid (ownsRow_upd HO2.out u (fun g hg h => by
    have e := hS _ h; subst e; exact row_not_book HO2.out HBK0.out (by decide) hg))
  have HO3 := Lib.hid (ownsRow_upd HO3.out u (fun g hg h => by
    have e := hS _ h; subst e; exact row_not_book HO3.out HBK0.out (by decide) hg))
  have HBKL := Lib.hid (show w.heap.size ≤ bk from HBW.out)
  have U11 := ext_then HU10.out u (fun g h => by rw [hS g h]; exact HBKL.out)
  have HU11 := Lib.hid U11
  have HBK1 := Lib.hid hbk
  have HH1 := Lib.hid H1
  have CK2 := answer_any (N := 1) hbk H1 HO2.out (fun i h g hi hg hg2 => by
    have hi0 : i = 0 := by have := (List.getElem?_eq_some_iff.1 hi).1; simp at this; exact this
    subst hi0
    simp only [List.getElem?_cons_zero, Option.some.injEq] at hi
    subst hi
    have h1 := (HL1.out g hg2).2
    have h2 := (HL2.out g hg).1
    omega) U11.size (by decide) (by simp) 0 5 ⟨#[97, 98]⟩
  have hbx := HB7.out
  have c0 := cell_of_blk hbx 0
  have c1 := cell_of_blk hbx 1
  have c2 := cell_of_blk hbx 2
  have c3 := cell_of_blk hbx 3
  simp only [List.size_toArray, List.getElem?_toArray, List.getElem?_cons_zero, List.getElem?_cons_succ] at c0 c1 c2 c3
  clear hbx
  clear H1 hbk u hS U11 CK d0 d1 d2 d3
  go_wp2_with fail
  refine CK2.mono ?_
  rintro e w12 ⟨rfl, tv2, H2, hbk, u⟩
  simp only [List.cons_append, List.nil_append, List.length_cons, List.length_nil, Nat.zero_add] at H2
  have hS : ∀ g, (g = bk ∨ tv1.ownBlock = some g) → w.heap.size ≤ g := fun g h => h.elim (fun e => by rw [e]; exact HBKL.out) (fun h => (HH1.out.row.lt g h).1)
  have HB9 := Lib.hid (u.blk HB9.out (fun h => h.elim HNB9.out (fun h => row_not_ty HH1.out.row HB9.out (by decide) h)))
  have HO3 := Lib.hid (ownsRow_upd HO3.out u (fun g hg h => h.elim (fun e => by subst e; exact row_not_book HO3.out HBK1.out (by decide) hg) (fun h => own_apart HO3.out HH1.out.row (by decide) hg h)))
  have U12 := ext_then HU11.out u hS
  have HU12 := Lib.hid U12
  have HBK2 := Lib.hid hbk
  have HH2 := Lib.hid H2
  have CK3 := answer_any (N := 2) hbk H2 HO3.out (fun i h g hi hg hg2 => by
    have h3 := (HL3.out g hg).1
    have hi0 : i = 0 ∨ i = 1 := by have := (List.getElem?_eq_some_iff.1 hi).1; simp at this; omega
    rcases hi0 with rfl | rfl
    · simp only [List.getElem?_cons_zero, Option.some.injEq] at hi
      subst hi
      have h1 := (HL1.out g hg2).2
      have h4 := HS23.out
      omega
    · simp only [List.getElem?_cons_succ, List.getElem?_cons_zero, Option.some.injEq] at hi
      subst hi
      have h1 := (HL2.out g hg2).2
      omega) U12.size (by decide) (by simp) q.code q.size q.leaf
  have hbx := HB9.out
  have c0 := cell_of_blk hbx 0
  have c1 := cell_of_blk hbx 1
  have c2 := cell_of_blk hbx 2
  have c3 := cell_of_blk hbx 3
  simp only [List.size_toArray, List.getElem?_toArray, List.getElem?_cons_zero, List.getElem?_cons_succ] at c0 c1 c2 c3
  clear hbx
  clear H2 hbk u hS U12 CK2
  go_wp2_with fail
  refine CK3.mono ?_
  rintro e w13 ⟨rfl, tv3, H3, hbk, u⟩
  simp only [List.cons_append, List.nil_append, List.length_cons, List.length_nil, Nat.zero_add] at H3
  have hS : ∀ g, (g = bk ∨ tv2.ownBlock = some g) → w.heap.size ≤ g := fun g h => h.elim (fun e => by rw [e]; exact HBKL.out) (fun h => (HH2.out.row.lt g h).1)
  have U13 := ext_then HU12.out u hS
  have HU13 := Lib.hid U13
  have HH3 := Lib.hid H3
  have CA := apartH_any hbk (fun c h1 h2 h3 => bookH_nil _ _ c h1 h2 h3) rfl H3 U13.size (by simp) (fun i h hi => by
    have hi0 : i = 0 ∨ i = 1 ∨ i = 2 := by have := (List.getElem?_eq_some_iff.1 hi).1; simp at this; omega
    rcases hi0 with rfl | rfl | rfl
    · simp only [List.getElem?_cons_zero, Option.some.injEq] at hi
      subst hi; exact ⟨by show q.hs.length ≤ _; omega, (by decide : 1 ≤ 1000000000), rfl⟩
    · simp only [List.getElem?_cons_succ, List.getElem?_cons_zero, Option.some.injEq] at hi
      subst hi; exact ⟨(by decide : 0 ≤ 1000000000), (by decide : 2 ≤ 1000000000), rfl⟩
    · simp only [List.getElem?_cons_succ, List.getElem?_cons_zero, Option.some.injEq] at hi
      subst hi; exact ⟨by show q.hs.length ≤ _; omega, (by decide : 3 ≤ 1000000000), rfl⟩)
  clear H3 hbk u hS U13 CK3 c0 c1 c2 c3
  go_wp2_with fail
  refine CA.mono ?_
  rintro e w14 ⟨rfl, u⟩
  have U14 := ext_then HU13.out u (fun g h => h.elim (fun ⟨i, hd, hi, hg⟩ => ((HH3.out.own i hd hi).lt g hg).1) (fun h => (HH3.out.row.lt g h).1))
  have HU14 := Lib.hid U14
  have CL := alive_any (HG.out.ext U14) (HA.out.ext U14)
  clear u U14 CA
  go_wp2_with fail
  refine CL.mono ?_
  rintro e w15 ⟨rfl, u⟩
  have HU15 := Lib.hid (HU14.out.trans u)
  clear u CL
  go_wp2_with fail
  go_ret
  exact ⟨rfl, HU15.out⟩
end Go.Proofs.YtljnhelnmnomoaaGreatDoor
