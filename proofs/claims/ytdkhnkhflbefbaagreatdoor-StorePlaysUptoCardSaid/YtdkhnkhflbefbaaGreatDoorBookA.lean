/- A Book that was told texts alone: Apart. PRINTED by wip/tools/gen_booka.py. A Book that texts alone were told: Texts. (For the seats without the wire; as in Asks.) -/
import Derived.Test.YtdkhnkhflbefbaaGreatDoorBookL
import Derived.Test.YtdkhnkhflbefbaaGreatDoorBookK
import Derived.Test.YtdkhnkhflbefbaaGreatDoorBookE
namespace Go.Proofs.YtdkhnkhflbefbaaGreatDoor
open Go.RowKit Go.Lib


set_option maxRecDepth 8000 in
set_option maxHeartbeats 8000000 in
theorem apartT_any {B b : Nat} {W : World} {tv : Value} {L : List HeldD} {C : Nat → List Value} {cs : Array Value} (hb : W.heap[b]? = some (.cells cs 58 (0, 0))) (hcs : ∀ c, 1 ≤ c → c ≤ 16 → c ≠ 3 → cs[c]? = some (.slice none 0 0)) (h3 : cs[3]? = some tv)
    (H : HoldT B W tv L C) (T : Tab10 W) (hP : 17 < B) (hB : B ≤ W.heap.size) (hn : L.length ≤ 4000000) (hnn : ∀ (i : Nat) h, L[i]? = some h → h.n ≤ 1000000000 ∧ h.num ≤ 1000000000 ∧ h.long = .slice none 0 0) :
    Calls Tryz.prog 13 #[.pointer (some ⟨b, 0, none⟩)] W fun e W' => e = .returned (.bool true) ∧ Upd (fun g => listBs L g ∨ tv.ownBlock = some g) W W' := by
  have hbB : ¬ listBs L b := fun ⟨i, hd, hi, hg⟩ => row_not_book (H.own i hd hi) hb (by decide) hg
  have hbt : tv.ownBlock ≠ some b := row_not_book H.row hb (by decide)
  have hTB : ¬ listBs L 17 := fun ⟨i, hd, hi, hg⟩ => by have := ((H.own i hd hi).lt _ hg).1; omega
  have hTt : tv.ownBlock ≠ some 17 := fun hg => by have := (H.row.lt _ hg).1; omega
  have HN := Lib.hid (fun (W' : World) (hb : W'.heap[b]? = some (.cells cs 58 (0, 0))) (c : Nat) (h1 : 1 ≤ c) (h2 : c ≤ 16) (h4 : c ≠ 3) => show W'.cell? ⟨b, c, none⟩ = some (.slice none 0 0) from (cell_of_blk hb c).trans (hcs c h1 h2 h4))
  have H3 := Lib.hid (fun (W' : World) (hb : W'.heap[b]? = some (.cells cs 58 (0, 0))) => show W'.cell? ⟨b, 3, none⟩ = some tv from (cell_of_blk hb 3).trans h3)
  have HBK := Lib.hid hb
  have HBB := Lib.hid (show ¬ (listBs L b ∨ tv.ownBlock = some b) from fun h => h.elim hbB hbt)
  have HH := Lib.hid H
  have HT := Lib.hid T
  have HTB := Lib.hid hTB
  have HTt := Lib.hid hTt
  have HNN := Lib.hid hnn
  have HNA := Lib.hid hn
  have HB0 := Lib.hid hB
  have HbB := Lib.hid hbB
  have HbT := Lib.hid hbt
  clear hb hcs h3 H T hP hB hn hnn hbB hbt hTB hTt
  go_enter Tryz.func13, Tryz.ntmps13
  go_wp2_with fail
  refine (fillInt_no (HN.out _ HBK.out 1 (by decide) (by decide) (by decide))).mono ?_
  rintro e w' ⟨rfl, rfl⟩
  go_wp2_with fail
  refine (fillByte_no (HN.out _ HBK.out 2 (by decide) (by decide) (by decide))).mono ?_
  rintro e w' ⟨rfl, rfl⟩
  go_wp2_with fail
  refine (fillT_any (H3.out _ HBK.out) HbB.out HH.out HT.out HTB.out HNA.out HNN.out).mono ?_
  rintro e W2 ⟨rfl, ⟨C2, H2, hC2⟩, u⟩
  have HBK2 := Lib.hid (u.blk HBK.out HbB.out)
  have HG2 := Lib.hid (GrowT.start H2 hC2 (fun i h hi => (HNN.out i h hi).2.2))
  have HT2 := Lib.hid (HT.out.upd u HTB.out)
  have HU2 := Lib.hid (u.mono (T := fun g => listBs L g ∨ tv.ownBlock = some g) (fun _ _ h => .inl h))
  have HBL2 := Lib.hid (Nat.le_trans HB0.out u.size)
  clear H2 hC2 u
  go_wp2_with fail
  refine (fillNumber_no (HN.out _ HBK2.out 4 (by decide) (by decide) (by decide))).mono ?_
  rintro e w' ⟨rfl, rfl⟩
  go_wp2_with fail
  refine (fillHash_no (HN.out _ HBK2.out 5 (by decide) (by decide) (by decide))).mono ?_
  rintro e w' ⟨rfl, rfl⟩
  go_wp2_with fail
  refine (fillCoord_no (HN.out _ HBK2.out 6 (by decide) (by decide) (by decide))).mono ?_
  rintro e w' ⟨rfl, rfl⟩
  go_wp2_with fail
  refine (fillSpan_no (HN.out _ HBK2.out 7 (by decide) (by decide) (by decide))).mono ?_
  rintro e w' ⟨rfl, rfl⟩
  go_wp2_with fail
  refine (fillNode_no (HN.out _ HBK2.out 8 (by decide) (by decide) (by decide))).mono ?_
  rintro e w' ⟨rfl, rfl⟩
  go_wp2_with fail
  refine (fillTile_no (HN.out _ HBK2.out 9 (by decide) (by decide) (by decide))).mono ?_
  rintro e w' ⟨rfl, rfl⟩
  go_wp2_with fail
  refine (fillEntry_no (HN.out _ HBK2.out 10 (by decide) (by decide) (by decide))).mono ?_
  rintro e w' ⟨rfl, rfl⟩
  go_wp2_with fail
  refine (fillFound_no (HN.out _ HBK2.out 11 (by decide) (by decide) (by decide))).mono ?_
  rintro e w' ⟨rfl, rfl⟩
  go_wp2_with fail
  refine (fillKnown_no (HN.out _ HBK2.out 12 (by decide) (by decide) (by decide))).mono ?_
  rintro e w' ⟨rfl, rfl⟩
  go_wp2_with fail
  refine (fillVote_no (HN.out _ HBK2.out 13 (by decide) (by decide) (by decide))).mono ?_
  rintro e w' ⟨rfl, rfl⟩
  go_wp2_with fail
  refine (fillPart_no (HN.out _ HBK2.out 14 (by decide) (by decide) (by decide))).mono ?_
  rintro e w' ⟨rfl, rfl⟩
  go_wp2_with fail
  refine (fillHashList_no (HN.out _ HBK2.out 15 (by decide) (by decide) (by decide))).mono ?_
  rintro e w' ⟨rfl, rfl⟩
  go_wp2_with fail
  refine (fillQuery_no (HN.out _ HBK2.out 16 (by decide) (by decide) (by decide))).mono ?_
  rintro e w' ⟨rfl, rfl⟩
  go_wp2_with fail
  refine (growInt_no (HN.out _ HBK2.out 1 (by decide) (by decide) (by decide))).mono ?_
  rintro e w' ⟨rfl, rfl⟩
  go_wp2_with fail
  refine (growByte_no (HN.out _ HBK2.out 2 (by decide) (by decide) (by decide))).mono ?_
  rintro e w' ⟨rfl, rfl⟩
  go_wp2_with fail
  refine (growT_any (H3.out _ HBK2.out) HbB.out HbT.out HG2.out HT2.out HTB.out HTt.out HBL2.out HNA.out (fun i h hi => ⟨(HNN.out i h hi).1, (HNN.out i h hi).2.1⟩)).mono ?_
  rintro e W3 ⟨rfl, ⟨L3, H3'⟩, u⟩
  have HBK3 := Lib.hid (u.blk HBK2.out HBB.out)
  have HG3 := Lib.hid H3'
  have HT3 := Lib.hid (HT2.out.upd u (fun h => h.elim HTB.out HTt.out))
  have HU3 := Lib.hid (HU2.out.trans u)
  clear H3' u
  go_wp2_with fail
  refine (growNumber_no (HN.out _ HBK3.out 4 (by decide) (by decide) (by decide))).mono ?_
  rintro e w' ⟨rfl, rfl⟩
  go_wp2_with fail
  refine (growHash_no (HN.out _ HBK3.out 5 (by decide) (by decide) (by decide))).mono ?_
  rintro e w' ⟨rfl, rfl⟩
  go_wp2_with fail
  refine (growCoord_no (HN.out _ HBK3.out 6 (by decide) (by decide) (by decide))).mono ?_
  rintro e w' ⟨rfl, rfl⟩
  go_wp2_with fail
  refine (growSpan_no (HN.out _ HBK3.out 7 (by decide) (by decide) (by decide))).mono ?_
  rintro e w' ⟨rfl, rfl⟩
  go_wp2_with fail
  refine (growNode_no (HN.out _ HBK3.out 8 (by decide) (by decide) (by decide))).mono ?_
  rintro e w' ⟨rfl, rfl⟩
  go_wp2_with fail
  refine (growTile_no (HN.out _ HBK3.out 9 (by decide) (by decide) (by decide))).mono ?_
  rintro e w' ⟨rfl, rfl⟩
  go_wp2_with fail
  refine (growEntry_no (HN.out _ HBK3.out 10 (by decide) (by decide) (by decide))).mono ?_
  rintro e w' ⟨rfl, rfl⟩
  go_wp2_with fail
  refine (growFound_no (HN.out _ HBK3.out 11 (by decide) (by decide) (by decide))).mono ?_
  rintro e w' ⟨rfl, rfl⟩
  go_wp2_with fail
  refine (growKnown_no (HN.out _ HBK3.out 12 (by decide) (by decide) (by decide))).mono ?_
  rintro e w' ⟨rfl, rfl⟩
  go_wp2_with fail
  refine (growVote_no (HN.out _ HBK3.out 13 (by decide) (by decide) (by decide))).mono ?_
  rintro e w' ⟨rfl, rfl⟩
  go_wp2_with fail
  refine (growPart_no (HN.out _ HBK3.out 14 (by decide) (by decide) (by decide))).mono ?_
  rintro e w' ⟨rfl, rfl⟩
  go_wp2_with fail
  refine (growHashList_no (HN.out _ HBK3.out 15 (by decide) (by decide) (by decide))).mono ?_
  rintro e w' ⟨rfl, rfl⟩
  go_wp2_with fail
  refine (growQuery_no (HN.out _ HBK3.out 16 (by decide) (by decide) (by decide))).mono ?_
  rintro e w' ⟨rfl, rfl⟩
  go_wp2_with fail
  refine (lookInt_no (HN.out _ HBK3.out 1 (by decide) (by decide) (by decide))).mono ?_
  rintro e w' ⟨rfl, rfl⟩
  go_wp2_with fail
  refine (lookByte_no (HN.out _ HBK3.out 2 (by decide) (by decide) (by decide))).mono ?_
  rintro e w' ⟨rfl, rfl⟩
  go_wp2_with fail
  refine (lookT_any (H3.out _ HBK3.out) HG3.out HT3.out HNA.out (fun i h hi => ⟨(HNN.out i h hi).1, (HNN.out i h hi).2.1⟩)).mono ?_
  rintro e W4 ⟨rfl, u⟩
  have HBK4 := Lib.hid (Ext.blk u HBK3.out)
  have HU4 := Lib.hid (HU3.out.thenExt u)
  clear u
  go_wp2_with fail
  refine (lookNumber_no (HN.out _ HBK4.out 4 (by decide) (by decide) (by decide))).mono ?_
  rintro e w' ⟨rfl, rfl⟩
  go_wp2_with fail
  refine (lookHash_no (HN.out _ HBK4.out 5 (by decide) (by decide) (by decide))).mono ?_
  rintro e w' ⟨rfl, rfl⟩
  go_wp2_with fail
  refine (lookCoord_no (HN.out _ HBK4.out 6 (by decide) (by decide) (by decide))).mono ?_
  rintro e w' ⟨rfl, rfl⟩
  go_wp2_with fail
  refine (lookSpan_no (HN.out _ HBK4.out 7 (by decide) (by decide) (by decide))).mono ?_
  rintro e w' ⟨rfl, rfl⟩
  go_wp2_with fail
  refine (lookNode_no (HN.out _ HBK4.out 8 (by decide) (by decide) (by decide))).mono ?_
  rintro e w' ⟨rfl, rfl⟩
  go_wp2_with fail
  refine (lookTile_no (HN.out _ HBK4.out 9 (by decide) (by decide) (by decide))).mono ?_
  rintro e w' ⟨rfl, rfl⟩
  go_wp2_with fail
  refine (lookEntry_no (HN.out _ HBK4.out 10 (by decide) (by decide) (by decide))).mono ?_
  rintro e w' ⟨rfl, rfl⟩
  go_wp2_with fail
  refine (lookFound_no (HN.out _ HBK4.out 11 (by decide) (by decide) (by decide))).mono ?_
  rintro e w' ⟨rfl, rfl⟩
  go_wp2_with fail
  refine (lookKnown_no (HN.out _ HBK4.out 12 (by decide) (by decide) (by decide))).mono ?_
  rintro e w' ⟨rfl, rfl⟩
  go_wp2_with fail
  refine (lookVote_no (HN.out _ HBK4.out 13 (by decide) (by decide) (by decide))).mono ?_
  rintro e w' ⟨rfl, rfl⟩
  go_wp2_with fail
  refine (lookPart_no (HN.out _ HBK4.out 14 (by decide) (by decide) (by decide))).mono ?_
  rintro e w' ⟨rfl, rfl⟩
  go_wp2_with fail
  refine (lookHashList_no (HN.out _ HBK4.out 15 (by decide) (by decide) (by decide))).mono ?_
  rintro e w' ⟨rfl, rfl⟩
  go_wp2_with fail
  refine (lookQuery_no (HN.out _ HBK4.out 16 (by decide) (by decide) (by decide))).mono ?_
  rintro e w' ⟨rfl, rfl⟩
  go_wp2_with fail
  go_ret
  exact ⟨rfl, HU4.out⟩

theorem tab_lt {w : World} (T : Tab10 w) : 17 < w.heap.size := by
  have hg : Tryz.prog.globalNamed "internal/strconv.uint64pow10" = some 17 := by kernel_rfl
  unfold Tab10 Lib.TabIs World.var? at T
  simp only [hg, Option.bind_some] at T
  cases hb : w.heap[17]? with
  | none => simp [hb] at T
  | some o => exact lt_of_blk hb
theorem ext_then {w W W' : World} {S : Nat → Prop} (h : Ext w W) (u : Upd S W W') (hS : ∀ g, S g → w.heap.size ≤ g) : Ext w W' := h.then u (fun b hb hs => by have := hS b hs; omega)
theorem row_not_ty {W : World} {B b : Nat} {e t : TypeId} {size n : Nat} {v : Value} {xs : List Value} {cs : Array Value} {f : Nat × Nat} (h : W.ownsRow B e size v n xs) (hb : W.heap[b]? = some (.cells cs t f)) (he : e ≠ t) : v.ownBlock ≠ some b := fun hg => by
  obtain ⟨cl, h1⟩ := own_ty h hg
  rw [hb] at h1
  simp only [Option.some.injEq, Obj.cells.injEq] at h1
  exact he h1.2.1.symm
/-- A book that texts alone were told. -/
def bookC (N : Int) (tv : Value) : List Value := [.int .i64 N, .slice none 0 0, .slice none 0 0, tv, .slice none 0 0, .slice none 0 0, .slice none 0 0, .slice none 0 0, .slice none 0 0, .slice none 0 0, .slice none 0 0, .slice none 0 0, .slice none 0 0, .slice none 0 0, .slice none 0 0, .slice none 0 0, .slice none 0 0]
theorem bookC_nil (N : Int) (tv : Value) (c : Nat) (h1 : 1 ≤ c) (h2 : c ≤ 16) (h3 : c ≠ 3) : (bookC N tv).toArray[c]? = some (.slice none 0 0) := by
  rcases (show c = 1 ∨ c = 2 ∨ c = 4 ∨ c = 5 ∨ c = 6 ∨ c = 7 ∨ c = 8 ∨ c = 9 ∨ c = 10 ∨ c = 11 ∨ c = 12 ∨ c = 13 ∨ c = 14 ∨ c = 15 ∨ c = 16 by omega) with rfl | rfl | rfl | rfl | rfl | rfl | rfl | rfl | rfl | rfl | rfl | rfl | rfl | rfl | rfl <;> rfl
theorem texts_any {B b N : Nat} {W : World} {tv v : Value} {L : List HeldD} {C : Nat → List Value} {n : Nat} {xs : List Value} (hb : W.heap[b]? = some (.cells (bookC N tv).toArray 58 (0, 0)))
    (H : HoldT B W tv L C) (hv : W.ownsRow B 9 1 v n xs) (hsep : ∀ (i : Nat) h g, L[i]? = some h → v.ownBlock = some g → h.v.ownBlock ≠ some g) (hB : B ≤ W.heap.size) (hN : N ≤ 4000000) (hn : L.length ≤ 4000000) :
    Calls Tryz.prog 34 #[.pointer (some ⟨b, 0, none⟩), v] W fun e W' => e = .returned (.tuple #[]) ∧ ∃ tv', HoldT B W' tv' (L ++ [⟨v, .slice none 0 0, n, N + 1⟩]) (fun j => if j = L.length then xs else C j) ∧
      W'.heap[b]? = some (.cells (bookC ((N + 1 : Nat) : Int) tv').toArray 58 (0, 0)) ∧ Upd (fun g => g = b ∨ tv.ownBlock = some g) W W' := by
  have CK := keepT_any hb rfl rfl H hv hsep hB hN hn
  clear hb H hv hsep
  go_enter Tryz.func34, Tryz.ntmps34
  go_wp2_with fail
  refine CK.mono ?_
  rintro e w' ⟨rfl, h⟩
  have HH := Lib.hid h
  clear h CK
  go_wp2_with fail
  go_end0
  exact ⟨rfl, HH.out⟩
end Go.Proofs.YtdkhnkhflbefbaaGreatDoor
