/- The store by contracts: refused, Put. -/
import Derived.Test.YtdkhnkhflbefbaaDoorStore2
namespace Go.Proofs.YtdkhnkhflbefbaaDoor
open Go.RowKit Go.Lib

def nameOk (s : ByteArray) : Bool := decide (1 ≤ s.size ∧ s.size ≤ 256)
/-- Why nothing is done with a name. -/
def StD.refuse (x : StD) (s : ByteArray) : EV := if nameOk s then (if x.dead then some (8, none) else none) else some (2, none)
theorem isEmpty_size (s : ByteArray) : s.toList.isEmpty = decide (s.size = 0) := by
  have h : s.toList.length = s.size := by rw [ByteArray.toList_eq]; rfl
  cases hs : s.toList with
  | nil => rw [hs] at h; simp [← h]
  | cons a l => rw [hs] at h; simp [← h]
set_option maxRecDepth 8000 in
set_option maxHeartbeats 4000000 in
theorem refused_any {B b mb : Nat} {se : Nat → Addr} {tv : Value} {x : StD} {w : World} (G : Genv B se w) (H : StAt w b mb tv x) (s : ByteArray) :
    Calls Tryd.prog 20 #[.pointer (some ⟨b, 0, none⟩), .string s] w fun e w' => e = .returned (evS se (x.refuse s)) ∧ w = w' := by
  have m0 := cell_of_blk H.blk 0
  have m5 := cell_of_blk H.blk 5
  simp only [stRow, List.size_toArray, List.getElem?_toArray, List.getElem?_cons_zero, List.getElem?_cons_succ] at m0 m5
  have g2 : w.cell? ⟨2, 0, none⟩ = some (sv se 2) := G.cell 2 (by omega) (by omega)
  have g8 : w.cell? ⟨0, 0, none⟩ = some (sv se 8) := G.cell 8 (by omega) (by omega)
  have hm0 := map_has mb
  have he := isEmpty_size s
  clear G H
  by_cases h0 : s.size = 0
  · have HR := Lib.hid (show x.refuse s = some (2, none) by unfold StD.refuse nameOk; simp [h0])
    rw [decide_eq_true h0] at he
    go_enter Tryd.func20, Tryd.ntmps20
    go_wp2_with fail
    go_ret
    exact ⟨by rw [HR.out]; rfl, rfl⟩
  · rw [decide_eq_false h0] at he
    by_cases h1 : 256 < s.size
    · have HR := Lib.hid (show x.refuse s = some (2, none) by unfold StD.refuse nameOk; simp [show ¬ s.size ≤ 256 by omega])
      have d1 : (256 : Int) < s.size := by omega
      clear h0 h1
      go_enter Tryd.func20, Tryd.ntmps20
      go_wp2_with fail
      go_ret
      exact ⟨by rw [HR.out]; rfl, rfl⟩
    · have d1 : ¬ (256 : Int) < s.size := by omega
      have HN := Lib.hid (show nameOk s = true by unfold nameOk; exact decide_eq_true ⟨by omega, by omega⟩)
      clear h0 h1
      cases hd : x.dead with
      | true =>
        have HR := Lib.hid (show x.refuse s = some (8, none) by unfold StD.refuse; rw [HN.out, hd]; rfl)
        rw [hd] at m5
        clear hd
        go_enter Tryd.func20, Tryd.ntmps20
        go_wp2_with fail
        go_ret
        exact ⟨by rw [HR.out]; rfl, rfl⟩
      | false =>
        have HR := Lib.hid (show x.refuse s = none by unfold StD.refuse; rw [HN.out, hd]; rfl)
        rw [hd] at m5
        clear hd
        go_enter Tryd.func20, Tryd.ntmps20
        go_wp2_with fail
        go_ret
        exact ⟨by rw [HR.out]; rfl, rfl⟩
/-- A text by a name. -/
def StD.put (x : StD) (s t : ByteArray) : StD × EV :=
  match x.refuse s with
  | some e => (x, some e)
  | none =>
    if x.crash = (x.nw : Int) + 1 then ({ x with nw := x.nw + 1, dead := true }, some (8, none))
    else if x.crash = -((x.nw : Int) + 1) then ({ x with nw := x.nw + 1, texts := putL x.texts s t, dead := true }, some (8, none))
    else ({ x with nw := x.nw + 1, texts := putL x.texts s t }, none)
theorem refuse_some (x : StD) (s : ByteArray) (e : Nat × Option Int) (h : x.refuse s = some e) : 1 ≤ e.1 ∧ e.1 ≤ 16 ∧ e.2 = none := by
  unfold StD.refuse at h
  split at h
  · split at h
    · obtain rfl := Option.some.inj h; exact ⟨by decide, by decide, rfl⟩
    · cases h
  · obtain rfl := Option.some.inj h; exact ⟨by decide, by decide, rfl⟩
def PutPost (se : Nat → Addr) (b mb : Nat) (tv : Value) (w : World) (r : StD × EV) (e : Ending) (w' : World) : Prop :=
  e = .returned (evS se r.2) ∧ StAt w' b mb tv r.1 ∧ Upd (two b mb) w w'
set_option maxRecDepth 8000 in
set_option maxHeartbeats 8000000 in
theorem put_any {B b mb : Nat} {se : Nat → Addr} {tv : Value} {x : StD} {w : World} (G : Genv B se w) (H : StAt w b mb tv x) (hB : B ≤ b) (hM : B ≤ mb) (s t : ByteArray) (hs : s.size ≤ maxLen) (ht : t.size ≤ maxLen) (hn : x.nw < 4611686018427387904) (hL : x.texts.length < 4611686018427387904) :
    Calls Tryd.prog 7 #[.pointer (some ⟨b, 0, none⟩), .string s, .string t] w (PutPost se b mb tv w (x.put s t)) := by
  have C := refused_any G H s
  have HH := Lib.hid H
  have HG := Lib.hid G
  have HS := Lib.hid hs
  have HT := Lib.hid ht
  have HL := Lib.hid (show x.texts.length < maxLen by unfold maxLen; omega)
  have HGB := Lib.hid (show B ≤ b ∧ B ≤ mb from ⟨hB, hM⟩)
  cases hr : x.refuse s with
  | some e =>
    obtain ⟨k, p⟩ := e
    obtain ⟨h1, h2, rfl⟩ := refuse_some x s _ hr
    have HP := Lib.hid (show x.put s t = (x, some (k, none)) by unfold StD.put; rw [hr])
    rw [hr] at C
    simp only [evS] at C
    clear H G hr hs ht hL hB hM h1 h2
    go_enter Tryd.func7, Tryd.ntmps7
    go_wp2_with fail
    refine C.mono ?_
    rintro e w2 ⟨rfl, rfl⟩
    go_wp2_with fail
    go_ret
    rw [HP.out]
    exact ⟨rfl, HH.out, Upd.refl _ _⟩
  | none =>
    rw [hr] at C
    simp only [evS] at C
    have m0 := cell_of_blk H.blk 0
    have m2 := cell_of_blk H.blk 2
    have m4 := cell_of_blk H.blk 4
    have m5 := cell_of_blk H.blk 5
    have f4 := free_of_blk H.blk 4
    have f5 := free_of_blk H.blk 5
    simp only [stRow, List.size_toArray, List.getElem?_toArray, List.getElem?_cons_zero, List.getElem?_cons_succ] at m0 m2 m4 m5
    have hw : IntKind.i64.wrap ((x.nw : Int) + 1) = (x.nw : Int) + 1 := IntWalk.i64_in _ (by omega)
    have hw2 : IntKind.i64.wrap (-((x.nw : Int) + 1)) = -((x.nw : Int) + 1) := IntWalk.i64_in _ (by omega)
    have g8 : w.cell? ⟨0, 0, none⟩ = some (sv se 8) := G.cell 8 (by omega) (by omega)
    have HRF := Lib.hid hr
    clear H G hr hs ht hL hB hM
    by_cases hc : x.crash = (x.nw : Int) + 1
    · have HP := Lib.hid (show x.put s t = ({ x with nw := x.nw + 1, dead := true }, some (8, none)) by unfold StD.put; rw [HRF.out]; simp only; rw [if_pos hc])
      have hcb : (x.crash == (x.nw : Int) + 1) = true := by simp [hc]
      clear hc
      go_enter Tryd.func7, Tryd.ntmps7
      go_wp2_with fail
      refine C.mono ?_
      rintro e w2 ⟨rfl, rfl⟩
      go_wp2_with fail
      go_quiet (fail)
      go_wp2_with fail
      go_ret
      rw [HP.out]
      have U := fun k => (((Upd.refl (one b) w).setCell (p := ⟨b, 4, none⟩) (.inr rfl) (.int .i64 ((x.nw : Int) + 1))).drewN k).setCell (p := ⟨b, 5, none⟩) (.inr rfl) (.bool true)
      have b1 := fun k => blk_set (w := (w.setCell ⟨b, 4, none⟩ (.int .i64 ((x.nw : Int) + 1))).drewN k) (blk_set HH.out.blk 4 (.int .i64 ((x.nw : Int) + 1))) 5 (.bool true)
      exact ⟨rfl, ⟨b1 _, HH.out.tex.upd (U _) (fun e => HH.out.ne (show mb = b from e).symm), rows_upd HH.out.row (U _) (fun g hg e => HH.out.tvb (by rw [hg]; exact congrArg some (show g = b from e))), HH.out.rise⟩, (U _).mono (fun k _ e => .inl e)⟩
    · have hcb : (x.crash == (x.nw : Int) + 1) = false := by simp [hc]
      have U1 := fun k => ((Upd.refl (one b) w).setCell (p := ⟨b, 4, none⟩) (.inr rfl) (.int .i64 ((x.nw : Int) + 1))).drewN k
      have HB1 := Lib.hid (fun k => show ((w.setCell ⟨b, 4, none⟩ (.int .i64 ((x.nw : Int) + 1))).drewN k).heap[b]? = some (.cells (stRow (.map (some mb)) tv { x with nw := x.nw + 1 }) 30 (0, 0)) from blk_set HH.out.blk 4 (.int .i64 ((x.nw : Int) + 1)))
      have HM1 := Lib.hid (fun k => HH.out.tex.upd (U1 k) (fun e => HH.out.ne (show mb = b from e).symm))
      have HU1 := Lib.hid U1
      clear U1
      go_enter Tryd.func7, Tryd.ntmps7
      go_wp2_with fail
      refine C.mono ?_
      rintro e w2 ⟨rfl, rfl⟩
      go_wp2_with fail
      go_quiet (fail)
      go_wp2_with (at_mapUpdate; refine wpList_putT _ rfl _ _ _ rfl mb x.texts rfl (HM1.out _) HL.out s t HS.out HT.out rfl rfl ?_)
      intro w3 hm3 u3
      have hb3 := u3.blk (HB1.out _) (fun e => HH.out.ne (show b = mb from e))
      have U3 : Upd (two b mb) w w3 := ((HU1.out _).mono (fun k _ e => .inl e)).then u3 (fun k _ e => .inr e)
      have m2 : w3.cell? ⟨b, 2, none⟩ = some (.int .i64 x.crash) := cell_of_blk hb3 2
      have m4 : w3.cell? ⟨b, 4, none⟩ = some (.int .i64 ((x.nw : Int) + 1)) := cell_of_blk hb3 4
      have m5 : w3.cell? ⟨b, 5, none⟩ = some (.bool x.dead) := cell_of_blk hb3 5
      have f5 := free_of_blk hb3 5
      have G3 := HG.out.below (U3.below HG.out.size (fun k e => e.elim (fun h => h ▸ HGB.out.1) (fun h => h ▸ HGB.out.2)))
      have g8 : w3.cell? ⟨0, 0, none⟩ = some (sv se 8) := G3.cell 8 (by omega) (by omega)
      have HB3 := Lib.hid hb3
      have HM3 := Lib.hid hm3
      have HU3 := Lib.hid U3
      have HR3 := Lib.hid (rows_upd HH.out.row U3 (fun g hg e => e.elim (fun h => HH.out.tvb (by rw [hg]; exact congrArg some h)) (fun h => HH.out.tvm (by rw [hg]; exact congrArg some h))))
      clear hb3 U3 G3 hm3 u3 HB1 HM1 HU1
      by_cases hc2 : x.crash = -((x.nw : Int) + 1)
      · have HP := Lib.hid (show x.put s t = ({ x with nw := x.nw + 1, texts := putL x.texts s t, dead := true }, some (8, none)) by unfold StD.put; rw [HRF.out]; simp only; rw [if_neg hc, if_pos hc2])
        have hcb2 : (x.crash == -((x.nw : Int) + 1)) = true := by simp [hc2]
        have HN2 := Lib.hid HH.out.ne
        clear hc hc2 hcb
        go_wp2_with fail
        go_quiet (fail)
        go_wp2_with fail
        go_ret
        rw [HP.out]
        have U := fun k => ((Upd.refl (one b) w3).drewN k).setCell (p := ⟨b, 5, none⟩) (.inr rfl) (.bool true)
        have b1 := fun k => blk_set (w := w3.drewN k) HB3.out 5 (.bool true)
        exact ⟨rfl, ⟨b1 _, HM3.out.upd (U _) (fun e => HN2.out (show mb = b from e).symm), rows_upd HR3.out (U _) (fun g hg e => HH.out.tvb (by rw [hg]; exact congrArg some (show g = b from e))), HH.out.rise⟩, HU3.out.trans ((U _).mono (fun k _ e => .inl e))⟩
      · have HP := Lib.hid (show x.put s t = ({ x with nw := x.nw + 1, texts := putL x.texts s t }, none) by unfold StD.put; rw [HRF.out]; simp only; rw [if_neg hc, if_neg hc2])
        have hcb2 : (x.crash == -((x.nw : Int) + 1)) = false := by simp [hc2]
        clear hc hc2 hcb
        go_wp2_with fail
        go_quiet (fail)
        go_wp2_with fail
        go_ret
        rw [HP.out]
        exact ⟨rfl, StAt.ext (⟨HB3.out, HM3.out, HR3.out, HH.out.rise⟩ : StAt w3 b mb tv { x with nw := x.nw + 1, texts := putL x.texts s t }) ((Upd.refl none' w3).drewN _), HU3.out.drewN _⟩
end Go.Proofs.YtdkhnkhflbefbaaDoor
