/- Two leaves' hashes and their node's, by SHA-256: plain. What two leaves make of an empty log: plain. writer.Append by contract: at least one leaf, none too long, a writer that writes. law01.SameCheckpoint of the same, without extra lines, by contract. writer.Append by contracts where it refuses, and where there is nothing to append. PRINTED by wip/tools/gen_wrn.py. -/
import Derived.Test.YtnkcfkjeeennmaaGreatDoorShaU
import Derived.Test.YtnkcfkjeeennmaaGreatDoorPathW
import Derived.Test.YtnkcfkjeeennmaaGreatDoorHEq
import Derived.Test.YtnkcfkjeeennmaaGreatDoorTxt
namespace Go.Proofs.YtnkcfkjeeennmaaGreatDoor
open Go.RowKit Go.Lib


theorem abs64 (l : List UInt8) (h : l.length = 64) : abs shaStart l = blockP shaStart l := by
  unfold abs
  rw [absorb_ge blockP (by omega), absorb_lt blockP (by rw [List.length_drop]; omega), List.take_of_length_le (by omega)]
theorem abs128 (l : List UInt8) (h : l.length = 128) : abs shaStart l = blockP (blockP shaStart (l.take 64)) (l.drop 64) := by
  unfold abs
  rw [absorb_ge blockP (by omega), absorb_ge blockP (by rw [List.length_drop]; omega), absorb_lt blockP (by rw [List.length_drop, List.length_drop]; omega), List.take_of_length_le (l := l.drop 64) (by rw [List.length_drop]; omega)]
def hA : List UInt8 := [2, 42, 105, 121, 230, 218, 183, 170, 90, 228, 195, 229, 228, 95, 126, 151, 113, 18, 167, 230, 53, 147, 130, 13, 190, 193, 236, 115, 138, 36, 249, 60]
def hB : List UInt8 := [87, 235, 53, 97, 93, 71, 243, 78, 199, 20, 202, 205, 245, 253, 116, 96, 138, 94, 142, 16, 39, 36, 232, 11, 36, 178, 135, 192, 194, 123, 106, 49]
def hAB : List UInt8 := [177, 55, 152, 95, 244, 132, 251, 96, 13, 185, 49, 7, 199, 123, 3, 101, 200, 13, 120, 245, 180, 41, 222, 208, 253, 151, 54, 29, 7, 121, 153, 235]
set_option maxRecDepth 100000 in
theorem leaf_a : leafH [97] = hA := by
  unfold leafH shaB
  rw [abs64 _ (by decide)]
  decide +kernel
set_option maxRecDepth 100000 in
theorem leaf_b : leafH [98] = hB := by
  unfold leafH shaB
  rw [abs64 _ (by decide)]
  decide +kernel
set_option maxRecDepth 100000 in
theorem node_ab : nodeH (leafH [97]) (leafH [98]) = hAB := by
  rw [leaf_a, leaf_b]
  unfold nodeH shaB
  rw [abs128 _ (by decide)]
  decide +kernel

def oL : List UInt8 := [108, 111, 103]
def lsAB : List (List UInt8) := [[97], [98]]
def nL0 : List UInt8 := [108, 101, 97, 102, 47, 48]
def nL1 : List UInt8 := [108, 101, 97, 102, 47, 49]
def nT0 : List UInt8 := [116, 105, 108, 101, 47, 48, 47, 48, 48, 48, 46, 112, 47, 50]
theorem leafN0 : leafN 0 = str nL0 := by decide +kernel
theorem leafN1 : leafN 1 = str nL1 := by decide +kernel
theorem pathT0 : pathB 0 0 2 = nT0 := by decide +kernel
theorem appG_ab : appG 0 [] lsAB = ⟨[[leafH [97], leafH [98]]], [[]], [true]⟩ := by
  unfold appG lsAB
  show addP 1 (leafH [98]) (addP 0 (leafH [97]) (gr0 [])) = _
  generalize leafH [97] = x
  generalize leafH [98] = y
  have e0 : ones 0 = 0 := ones_even (by decide)
  have e1 : ones 1 = 1 := by rw [ones_odd (by decide), show 1 / 2 = 0 from rfl, e0]
  unfold addP
  rw [e0, e1]
  rfl
theorem root_ab : rootE (appG 0 [] lsAB).es = nodeH (leafH [97]) (leafH [98]) := by
  rw [appG_ab]
  generalize leafH [97] = x
  generalize leafH [98] = y
  rfl
theorem puts_ab : appPuts 0 [] lsAB = [(str nL0, str [97]), (str nL1, str [98]), (str nT0, str (leafH [97] ++ leafH [98]))] := by
  unfold appPuts
  rw [appG_ab]
  generalize leafH [97] = x
  generalize leafH [98] = y
  show [(leafN 0, str [97]), (leafN 1, str [98])] ++ [(str (pathB 0 0 2), str (x ++ (y ++ [])))] = _
  rw [leafN0, leafN1, pathT0, List.append_nil]
  rfl
theorem put_head (t : ByteArray) : StD.put ⟨[], [], 0, 0, 0, false⟩ (str headB) t = (⟨[(str headB, t)], [], 0, 0, 1, false⟩, none) := by rfl
theorem appR_ab (t0 : ByteArray) : ∃ c a b t, appR ⟨[(str headB, t0)], [], 0, 0, 1, false⟩ oL 0 [] lsAB = (⟨[(str headB, c), (str nL0, a), (str nL1, b), (str nT0, t)], [], 0, 0, 5, false⟩, none) := by
  unfold appR
  rw [puts_ab]
  generalize str (ckptB oL (0 + lsAB.length) (rootE (appG 0 [] lsAB).es)) = c
  generalize str (leafH [97] ++ leafH [98]) = t
  exact ⟨c, str [97], str [98], t, rfl⟩
theorem names_ab (c a b t : ByteArray) : namesL [(str headB, c), (str nL0, a), (str nL1, b), (str nT0, t)] = [headB, nL0, nL1, nT0] := by
  unfold namesL
  refine Eq.trans (List.mergeSort_of_pairwise ?_) ?_
  · simp only [List.map_cons, List.map_nil]
    decide +kernel
  · rfl
theorem has_head (t : ByteArray) (zs : List Int) (c : Int) (k n : Nat) (d : Bool) : hasB ⟨[(str headB, t)], zs, c, k, n, d⟩ = true := by
  unfold hasB
  have h : namesL [(str headB, t)] = [headB] := by
    unfold namesL
    refine Eq.trans (List.mergeSort_of_pairwise ?_) ?_
    · simp
    · rfl
  rw [h]
  decide +kernel
theorem has_none (zs : List Int) (c : Int) (k n : Nat) (d : Bool) : hasB ⟨[], zs, c, k, n, d⟩ = false := by
  unfold hasB
  have h : namesL [] = [] := by
    unfold namesL
    simp
  rw [h]
  decide +kernel
theorem name_log : nameB oL = true := by decide +kernel
theorem long_ab : lsAB.any longS = false := by decide +kernel
theorem node_nz : nodeH (leafH [97]) (leafH [98]) ≠ z32B := by
  rw [node_ab]
  decide +kernel

def ApPost (se : Nat → Addr) (B b mb wb : Nat) (tv : Value) (w : World) (x : StD) (o : List UInt8) (n : Nat) (root : HB) (ev : Value) (es : List (List HB)) (vs : List Value) (ls : List (List UInt8)) (e : Ending) (w' : World) : Prop :=
  StAt w' b mb tv (appR x o n es ls).1 ∧ Upd (three b mb wb) w w' ∧ match (appR x o n es ls).2 with
    | none => ∃ ev' vs', e = .returned (.tuple #[ckV o (n + ls.length) (rootE (appG n es ls).es), .nilIface]) ∧ WrAt w' wb (.pointer (some ⟨b, 0, none⟩)) o (n + ls.length) (rootE (appG n es ls).es) ev' false ∧ EgAt B w' ev' (appG n es ls).es vs'
    | some _ => e = .returned (.tuple #[ckV [] 0 z32B, sv se 8]) ∧ WrAt w' wb (.pointer (some ⟨b, 0, none⟩)) o n root ev true ∧ EgAt B w' ev es vs
/-- The edges of the first j levels are copied. -/
def EcRel (B gb bb n : Nat) (es : List (List HB)) (W : World) (jv : Value) (wr : World) : Prop :=
  ∃ (j : Nat) (V : GrV) (D : GrD), j ≤ es.length ∧ jv = .int .i64 j ∧ GrAt B wr gb V D ∧ V.bb = bb ∧ D.es = es.take j ∧ D.ls = [] ∧ D.ts = [] ∧ D.n = n ∧ D.l = peaksE nodeH es ∧ Ext W wr
theorem size_tile : (Tryz.prog.info? 115).map (·.size) = some 3 := by kernel_rfl
theorem body_bsize : hasBody Tryz.prog 51 = true := by kernel_rfl
theorem body_broot : hasBody Tryz.prog 52 = true := by kernel_rfl
theorem body_peaks : hasBody Tryz.prog 42 = true := by kernel_rfl
theorem body_load : hasBody Tryz.prog 41 = true := by kernel_rfl
theorem body_clone : hasBody Tryz.prog 43 = true := by kernel_rfl
/-- What the region ahead of the growth reads. -/
structure A9 (a wb n : Nat) (ev : Value) (w : World) : Prop where
  b : w.cell? ⟨a, 0, none⟩ = some (.pointer (some ⟨wb, 0, none⟩))
  n : w.cell? ⟨wb, 2, none⟩ = some (.int .u64 n)
  e : w.cell? ⟨wb, 36, none⟩ = some ev
set_option maxRecDepth 20000 in
set_option maxHeartbeats 16000000 in
theorem append_any {B b mb wb : Nat} {se : Nat → Addr} {tv : Value} {x : StD} {w : World} {o : List UInt8} {n : Nat} {root : HB} {ev : Value} {es : List (List HB)} {vs : List Value} (E : Env B se w) (HW : WrAt w wb (.pointer (some ⟨b, 0, none⟩)) o n root ev false) (hr : root.length = 32) (HS : StAt w b mb tv x) (hB : B ≤ b) (hM : B ≤ mb) (hWB : B ≤ wb)
    (EG : EgAt B w ev es vs) (hf : fitsP n es) (h32 : E32 es) (A : Option Addr) (ls : List (List UInt8)) (c : Nat) (hc : CellsAt w A (strC ls)) (hA : A = none ∨ ∃ g o, A = some ⟨g, o, none⟩) (hAn : ∀ ad, A = some ad → ad.block ≠ b ∧ ad.block ≠ mb ∧ ad.block ≠ wb) (h1 : 1 ≤ ls.length) (h4 : ls.length ≤ 4096) (hn : n + ls.length ≤ 1048576) (hl : ls.any longS = false)
    (ho : nameB o = true) (hol : o.length ≤ 64) (hnw : x.nw ≤ 1099511627776) (hL : x.texts.length ≤ 1099511627776) :
    Calls Tryz.prog 11 #[.pointer (some ⟨wb, 0, none⟩), .slice A ls.length c] w (ApPost se B b mb wb tv w x o n root ev es vs ls) := by
  have X1 := ((Upd.refl none' w).alloc (.cells #[.pointer (some ⟨wb, 0, none⟩)] 26)).alloc (.cells zckA 32)
  have HA0 := Lib.hid (blk_alloc_lt (blk_alloc w (.cells #[.pointer (some ⟨wb, 0, none⟩)] 26)) (.cells zckA 32))
  have HZ0 : Hid (((w.alloc (.cells #[.pointer (some ⟨wb, 0, none⟩)] 26)).alloc (.cells zckA 32)).heap[w.heap.size + 1]? = some (.cells zckA 32 (0, 0))) := Lib.hid (by
    have := blk_alloc (w.alloc (.cells #[.pointer (some ⟨wb, 0, none⟩)] 26)) (.cells zckA 32)
    rwa [World.size_alloc] at this)
  have HX1 := Lib.hid X1
  have HE1 := Lib.hid (E.ext X1)
  have HW1 := Lib.hid (HW.ext X1)
  have HS1 := Lib.hid (HS.ext X1)
  have HG1 := Lib.hid (EG.ext X1)
  have HC1 := Lib.hid (hc.ext X1)
  have HSZ1 : Hid (((w.alloc (.cells #[.pointer (some ⟨wb, 0, none⟩)] 26)).alloc (.cells zckA 32)).heap.size = w.heap.size + 2) := Lib.hid (by simp)
  have CL := long_any HW1.out (by omega) A ls c HC1.out hA (by omega)
  rw [show (decide (4096 < ls.length) || decide (1048576 < n + ls.length) || ls.any longS) = false by rw [hl]; simp; omega] at CL
  have k0 : ((w.alloc (.cells #[.pointer (some ⟨wb, 0, none⟩)] 26)).alloc (.cells zckA 32)).cell? ⟨w.heap.size, 0, none⟩ = some (.pointer (some ⟨wb, 0, none⟩)) := cell_of_blk HA0.out 0
  have k1 := HW1.out.c0
  have k2 := HW1.out.c37 hr
  have HR := Lib.hid hr
  have HC0 := Lib.hid hc
  have HBM := Lib.hid (⟨hB, hM, hWB⟩ : B ≤ b ∧ B ≤ mb ∧ B ≤ wb)
  have HF := Lib.hid (⟨hf, h32⟩ : fitsP n es ∧ E32 es)
  have HLA := Lib.hid (⟨hA, hAn⟩ : (A = none ∨ ∃ g o, A = some ⟨g, o, none⟩) ∧ ∀ ad, A = some ad → ad.block ≠ b ∧ ad.block ≠ mb ∧ ad.block ≠ wb)
  obtain ⟨m, hm⟩ : ∃ m, m = ls.length := ⟨_, rfl⟩
  have HM := Lib.hid (⟨hm, by omega, by omega, by omega⟩ : m = ls.length ∧ 1 ≤ m ∧ m ≤ 4096 ∧ n + m ≤ 1048576)
  have HLG := Lib.hid hl
  have HOO := Lib.hid (⟨ho, hol, hnw, hL⟩ : nameB o = true ∧ o.length ≤ 64 ∧ x.nw ≤ 1099511627776 ∧ x.texts.length ≤ 1099511627776)
  rw [← hm] at CL ⊢
  have hm0 : ¬ (m : Int) = 0 := by omega
  have HLT := Lib.hid (⟨lt_of_blk HW.blk, lt_of_blk HS.blk, (by obtain ⟨es, c, hb⟩ := HS.tex.blk; exact lt_of_blk hb), fun g hg => (HS.row.lt g hg).2⟩ : wb < w.heap.size ∧ b < w.heap.size ∧ mb < w.heap.size ∧ ∀ g, tv.ownBlock = some g → g < w.heap.size)
  clear E HW hr HS hB hM hWB EG hf h32 hc hA hAn h1 h4 hn hl ho hol hnw hL X1 hm
  go_enter Tryz.func11, Tryz.ntmps11
  go_wp2_with fail
  refine CL.mono ?_
  rintro e w1 ⟨rfl, hw1⟩
  clear CL
  generalize hW : (w.alloc (.cells #[.pointer (some ⟨wb, 0, none⟩)] 26)).alloc (.cells zckA 32) = W at *
  subst hw1
  clear hW
  go_wp2_with fail
  --TAIL
  obtain ⟨eA, ec, hev⟩ := own_sl HG1.out.er
  obtain ⟨ne, hne⟩ : ∃ ne, ne = es.length := ⟨_, rfl⟩
  rw [← hne] at hev
  subst hev
  have HNE := Lib.hid hne
  have HEX1 := Lib.hid (show EdAt W eA es by
    have h := HG1.out
    rw [HNE.out] at h
    exact h.at)
  have HS5 : Hid (A9 w.heap.size wb n (.slice eA ne ec) W.drew) := Lib.hid ⟨k0, HW1.out.c2, HW1.out.c36 HR.out⟩
  have HED := Lib.hid (HEX1.out.ext ((Upd.refl none' W).drew))
  clear hne k0 k1 k2
  refine region_bar (A9 w.heap.size wb n (.slice eA ne ec)) [14, 15] (by kernel_rfl) ?_
  change wpAnyB _ _ _ _ _ _ _ _ _ (World.drew _)
  refine bar_read 0 (.pointer (some ⟨wb, 0, none⟩)) rfl (by kernel_rfl) (by kernel_rfl) (by kernel_rfl) (by kernel_rfl) (by kernel_rfl) (fun _ _ _ h => h) (by rfl) (fun w7 h7 => run_ld1 w7 rfl ⟨w.heap.size, 0, none⟩ _ rfl Tryz.underlying26 rfl h7.b) HS5.out ?_
  refine bar_norm (by go_simp; all_goals exact rfl) ?_
  refine bar_pure 1 (.pointer (some ⟨wb, 0, none⟩)) rfl (by kernel_rfl) (by kernel_rfl) (by kernel_rfl) (by kernel_rfl) (fun _ _ _ h => h) (by rfl) (fun w7 => by go_simp) (fun _ => HS5.out) ?_
  refine bar_norm (by go_simp; all_goals exact rfl) ?_
  refine bar_pure 2 (.pointer (some ⟨wb, 1, none⟩)) rfl (by kernel_rfl) (by kernel_rfl) (by kernel_rfl) (by kernel_rfl) (fun _ _ _ h => h) (by rfl) (fun w7 => by go_simp) (fun _ => HS5.out) ?_
  refine bar_norm (by go_simp; all_goals exact rfl) ?_
  refine bar_pure 3 (.pointer (some ⟨wb, 2, none⟩)) rfl (by kernel_rfl) (by kernel_rfl) (by kernel_rfl) (by kernel_rfl) (fun _ _ _ h => h) (by rfl) (fun w7 => by go_simp) (fun _ => HS5.out) ?_
  refine bar_norm (by go_simp; all_goals exact rfl) ?_
  refine bar_read 4 (.int .u64 n) rfl (by kernel_rfl) (by kernel_rfl) (by kernel_rfl) (by kernel_rfl) (by kernel_rfl) (fun _ _ _ h => h) (by rfl) (fun w7 h7 => run_ld1 w7 rfl ⟨wb, 2, none⟩ _ rfl Tryz.underlying28 rfl h7.n) HS5.out ?_
  refine bar_norm (by go_simp; all_goals exact rfl) ?_
  refine bar_read 5 (.pointer (some ⟨wb, 0, none⟩)) rfl (by kernel_rfl) (by kernel_rfl) (by kernel_rfl) (by kernel_rfl) (by kernel_rfl) (fun _ _ _ h => h) (by rfl) (fun w7 h7 => run_ld1 w7 rfl ⟨w.heap.size, 0, none⟩ _ rfl Tryz.underlying26 rfl h7.b) HS5.out ?_
  refine bar_norm (by go_simp; all_goals exact rfl) ?_
  refine bar_pure 6 (.pointer (some ⟨wb, 0, none⟩)) rfl (by kernel_rfl) (by kernel_rfl) (by kernel_rfl) (by kernel_rfl) (fun _ _ _ h => h) (by rfl) (fun w7 => by go_simp) (fun _ => HS5.out) ?_
  refine bar_norm (by go_simp; all_goals exact rfl) ?_
  refine bar_pure 7 (.pointer (some ⟨wb, 36, none⟩)) rfl (by kernel_rfl) (by kernel_rfl) (by kernel_rfl) (by kernel_rfl) (fun _ _ _ h => h) (by rfl) (fun w7 => by go_simp) (fun _ => HS5.out) ?_
  refine bar_norm (by go_simp; all_goals exact rfl) ?_
  refine bar_read 8 (.slice eA ne ec) rfl (by kernel_rfl) (by kernel_rfl) (by kernel_rfl) (by kernel_rfl) (by kernel_rfl) (fun _ _ _ h => h) (by rfl) (fun w7 h7 => run_ld1 w7 rfl ⟨wb, 36, none⟩ _ rfl Tryz.underlying33 rfl h7.e) HS5.out ?_
  refine bar_norm (by go_simp; all_goals exact rfl) ?_
  refine bar1 9 (by kernel_rfl) ?_
  refine op_callf rfl (by rfl) 42 [.tmp 61] _ rfl body_peaks [.slice eA ne ec] rfl (R := fun v w' => w'.ownsRow W.heap.size 30 32 v (peaksE nodeH es).length (hcells (peaksE nodeH es)) ∧ Ext W.drew w') (by
    have C := peaks_any W.drew eA es ec HED.out HF.out.2 (by have := fits_3 HF.out.1 (by have := HM.out.2.2.2; omega); omega) (HE1.out.ext ((Upd.refl none' W).drew)).sgw (HE1.out.ext ((Upd.refl none' W).drew)).sh
    rw [← HNE.out] at C
    refine C.mono ?_
    rintro e w' ⟨v, rfl, h1, h2⟩
    exact ⟨v, rfl, h1, h2⟩) ?_
  rintro v w2 ⟨hown2, hx2⟩
  obtain ⟨pA, pc, rfl⟩ := own_sl hown2
  have HO2 := Lib.hid hown2
  have HX2 := Lib.hid ((Upd.refl none' W).drew.trans hx2)
  have HS2 : Hid (A9 w.heap.size wb n (.slice eA ne ec) w2) := Lib.hid ⟨hx2.cellv HS5.out.b, hx2.cellv HS5.out.n, hx2.cellv HS5.out.e⟩
  clear hown2 hx2
  refine ⟨fun _ => HS2.out, ?_⟩
  refine bar_norm (by go_simp; all_goals exact rfl) ?_
  have HP32 := Lib.hid (peaksE_32 es HF.out.2)
  have HPL := Lib.hid (show (peaksE nodeH es).length = pop3 n from peaks_pop HF.out.1 (by have := HM.out.2.2.2; omega))
  have HPL64 := Lib.hid (show (peaksE nodeH es).length ≤ 64 by have h1 := peaksE_len es; have h2 := fits_3 HF.out.1 (by have := HM.out.2.2.2; omega); omega)
  obtain ⟨pk, hpk⟩ : ∃ pk, pk = peaksE nodeH es := ⟨_, rfl⟩
  have HPK := Lib.hid hpk
  rw [← hpk] at HO2 HP32 HPL HPL64 ⊢
  clear hpk
  refine bar1 10 (by kernel_rfl) ?_
  refine op_callf rfl (by rfl) 41 [.tmp 57, .tmp 62] _ rfl body_load [.int .u64 n, .slice pA pk.length pc] rfl (R := fun v w' => ∃ bb lv, v = .tuple #[.pointer (some ⟨bb, 0, none⟩), .nilIface] ∧ BldAt w2.heap.size w' bb lv n pk ∧ Ext w2 w') (by
    have C := load_any w2 n (by have := HM.out.2.2.2; omega) pA pk pc HP32.out (cells_own HO2.out) HPL.out HPL64.out
    refine C.mono ?_
    rintro e w' ⟨bb, lv, rfl, h1, h2⟩
    exact ⟨_, rfl, bb, lv, rfl, h1, h2⟩) ?_
  rintro v w3 ⟨bb, lv, rfl, hbl3, hx3⟩
  have HBL := Lib.hid (hbl3.down (show w.heap.size + 2 ≤ w2.heap.size by have h1 := HX2.out.size; have h2 := HSZ1.out; omega))
  have HX3 := Lib.hid (HX2.out.trans hx3)
  have HS3 : Hid (A9 w.heap.size wb n (.slice eA ne ec) w3) := Lib.hid ⟨hx3.cellv HS2.out.b, hx3.cellv HS2.out.n, hx3.cellv HS2.out.e⟩
  clear hbl3 hx3
  refine ⟨fun _ => HS3.out, ?_⟩
  refine bar_norm (by go_simp; all_goals exact rfl) ?_
  refine bar_pure 11 (.tuple #[.pointer (some ⟨bb, 0, none⟩), .nilIface]) rfl (by kernel_rfl) (by kernel_rfl) (by kernel_rfl) (by kernel_rfl) (fun _ _ _ h => h) (by rfl) (fun w7 => by go_simp) (fun _ => HS3.out) ?_
  refine bar_norm (by go_simp; all_goals exact rfl) ?_
  refine bar_pure 12 (.pointer (some ⟨bb, 0, none⟩)) rfl (by kernel_rfl) (by kernel_rfl) (by kernel_rfl) (by kernel_rfl) (fun _ _ _ h => h) (by rfl) (fun w7 => by go_simp) (fun _ => HS3.out) ?_
  refine bar_norm (by go_simp; all_goals exact rfl) ?_
  refine bar_pure 13 (.nilIface) rfl (by kernel_rfl) (by kernel_rfl) (by kernel_rfl) (by kernel_rfl) (fun _ _ _ h => h) (by rfl) (fun w7 => by go_simp) (fun _ => HS3.out) ?_
  refine bar_norm (by go_simp; all_goals exact rfl) ?_
  refine bar1 14 (by kernel_rfl) ?_
  refine op_asg rfl (by rfl) rfl (.pointer (some ⟨bb, 0, none⟩)) rfl ?_
  refine ⟨fun e => by simp [openB] at e, ?_⟩
  refine bar_norm (by go_simp; all_goals exact rfl) ?_
  refine bar1 15 (by kernel_rfl) ?_
  refine op_asg rfl (by rfl) rfl (.nilIface) rfl ?_
  refine ⟨fun e => by simp [openB] at e, ?_⟩
  refine bar_norm (by go_simp; all_goals exact rfl) ?_
  refine bar_done (by kernel_rfl) ?_ _
  have HFR := Lib.hid (GrAt.fresh HBL.out (show w.heap.size + 2 ≤ w3.heap.size by have h1 := HX3.out.size; have h2 := HSZ1.out; omega))
  have HX4 := Lib.hid (HX3.out.alloc (.cells #[.pointer (some ⟨bb, 0, none⟩), nilS, nilS, nilS] 106))
  have HW4 := Lib.hid (HW1.out.ext HX4.out)
  have HA4 := Lib.hid (Ext.blk HX4.out HA0.out)
  have b4 : (w3.alloc (.cells #[.pointer (some ⟨bb, 0, none⟩), nilS, nilS, nilS] 106)).cell? ⟨w.heap.size, 0, none⟩ = some (.pointer (some ⟨wb, 0, none⟩)) := cell_of_blk HA4.out 0
  have e4 : (w3.alloc (.cells #[.pointer (some ⟨bb, 0, none⟩), nilS, nilS, nilS] 106)).cell? ⟨wb, 36, none⟩ = some (.slice eA ne ec) := HW4.out.c36 HR.out
  go_wp2_with fail
  have HGB := Lib.hid (show W.heap.size ≤ w3.heap.size from HX3.out.size)
  have HSW := Lib.hid (show W.heap.size = w.heap.size + 2 from HSZ1.out)
  generalize w3.alloc (.cells #[.pointer (some ⟨bb, 0, none⟩), nilS, nilS, nilS] 106) = W4 at *
  generalize w3.heap.size = gb at *
  clear b4 e4 HS5 HS2 HS3 HO2 HBL HX2 HX3 HW4 HA4 HED HEX1 HPL HPL64 HP32
  go_loopw [78] (fun jv wr => EcRel (w.heap.size + 2) gb bb n es W jv wr) (fun jv _ => ne - (RowKit.intOf jv).toNat)
  case atStart => exact ⟨0, _, _, Nat.zero_le _, rfl, HFR.out, rfl, by simp, rfl, rfl, rfl, HPK.out, HX4.out⟩
  case round =>
    obtain ⟨j, V, D, hj, rfl, hg, hvb, hde, hdl, hdt, hdn, hdp, hu⟩ := hrel
    have HG := Lib.hid hg
    have HD := Lib.hid (⟨hvb, hde, hdl, hdt, hdn, hdp⟩ : V.bb = bb ∧ D.es = es.take j ∧ D.ls = [] ∧ D.ts = [] ∧ D.n = n ∧ D.l = peaksE nodeH es)
    have HU := Lib.hid hu
    clear hg hvb hde hdl hdt hdn hdp hu
    by_cases hlt : j < ne
    · have hji : (j : Int) < ne := by omega
      have heg := (HG1.out.ext HU.out).er
      rw [← HNE.out] at heg
      obtain ⟨eg, rfl⟩ : ∃ g, eA = some ⟨g, 0, none⟩ := by
        rcases own_form heg with ⟨_, h0⟩ | ⟨g, c, h1, _⟩
        · omega
        · simp only [Value.slice.injEq, true_and] at h1; exact ⟨g, h1.1⟩
      have ck : wr.cell? ⟨eg, j, none⟩ = some (vs.getD j nilS) := by
        have := heg.cells (g := eg) rfl j (vs.getD j nilS) (by rw [List.getD_eq_getElem?_getD, List.getElem?_eq_getElem (by have := heg.1; omega)]; rfl)
        rwa [Addr.add_lit, Nat.zero_add] at this
      obtain ⟨ej, hej⟩ : ∃ ej, ej = es.getD j [] := ⟨_, rfl⟩
      have hee := (HG1.out.ext HU.out).ee j
      rw [← hej] at hee
      obtain ⟨vk, hvk⟩ : ∃ vk, vk = vs.getD j nilS := ⟨_, rfl⟩
      rw [← hvk] at hee ck
      have HEJ := Lib.hid hej
      have HEE := Lib.hid hee
      have HJ := Lib.hid hlt
      have HJN := Lib.hid (show D.es.length = j by rw [HD.out.2.1, List.length_take]; have := HNE.out; omega)
      have HE32 := Lib.hid (show ej.length < 256 ∧ H32 ej by
        rw [hej, List.getD_eq_getElem?_getD, List.getElem?_eq_getElem (by have := HNE.out; omega)]
        have := HF.out.2 es[j] (List.getElem_mem (by have := HNE.out; omega))
        exact ⟨this.2, this.1⟩)
      obtain ⟨dA, dc, hdv⟩ := own_sl HG.out.er
      rw [HJN.out] at hdv
      have HDV := Lib.hid hdv
      have c1 : wr.cell? ⟨gb, 1, none⟩ = some (.slice dA j dc) := by have := cell_of_blk HG.out.blk 1; rw [hdv] at this; exact this
      have HC1' := Lib.hid (show wr.drew.cell? ⟨gb, 1, none⟩ = some (.slice dA j dc) from c1)
      have hhb := HG.out.blk
      rw [hdv] at hhb
      have HBK : Hid (wr.drew.heap[gb]? = some (.cells #[.pointer (some ⟨V.bb, 0, none⟩), .slice dA j dc, V.dv, V.tv] 106 (0, 0))) := Lib.hid hhb
      have her6 := HG.out.er
      rw [hdv, HJN.out] at her6
      have HER6 := Lib.hid (ownsRow_upd her6 ((Upd.refl none' wr).drew) (fun _ _ => id))
      clear hhb heg hej hee hvk hdv hlt her6 c1
      go_wp2_with fail
      refine region_bar (fun w' => w'.cell? ⟨gb, 1, none⟩ = some (.slice dA j dc)) [9] (by kernel_rfl) ?_
      change wpAnyB _ _ _ _ _ _ _ _ _ (World.drew _)
      refine bar_pure 0 (.pointer (some ⟨gb, 0, none⟩)) rfl (by kernel_rfl) (by kernel_rfl) (by kernel_rfl) (by kernel_rfl) (fun _ _ _ h => h) (by rfl) (fun w7 => by go_simp) (fun _ => HC1'.out) ?_
      refine bar_norm (by go_simp; all_goals exact rfl) ?_
      refine bar_pure 1 (.pointer (some ⟨gb, 0, none⟩)) rfl (by kernel_rfl) (by kernel_rfl) (by kernel_rfl) (by kernel_rfl) (fun _ _ _ h => h) (by rfl) (fun w7 => by go_simp) (fun _ => HC1'.out) ?_
      refine bar_norm (by go_simp; all_goals exact rfl) ?_
      refine bar_pure 2 (.pointer (some ⟨gb, 0, none⟩)) rfl (by kernel_rfl) (by kernel_rfl) (by kernel_rfl) (by kernel_rfl) (fun _ _ _ h => h) (by rfl) (fun w7 => by go_simp) (fun _ => HC1'.out) ?_
      refine bar_norm (by go_simp; all_goals exact rfl) ?_
      refine bar_pure 3 (.pointer (some ⟨gb, 1, none⟩)) rfl (by kernel_rfl) (by kernel_rfl) (by kernel_rfl) (by kernel_rfl) (fun _ _ _ h => h) (by rfl) (fun w7 => by go_simp) (fun _ => HC1'.out) ?_
      refine bar_norm (by go_simp; all_goals exact rfl) ?_
      refine bar_read 4 (.slice dA j dc) rfl (by kernel_rfl) (by kernel_rfl) (by kernel_rfl) (by kernel_rfl) (by kernel_rfl) (fun _ _ _ h => h) (by rfl) (fun w7 h7 => run_ld1 w7 rfl ⟨gb, 1, none⟩ _ rfl Tryz.underlying33 rfl h7) HC1'.out ?_
      refine bar_norm (by go_simp; all_goals exact rfl) ?_
      refine bar_pure 5 (vk) rfl (by kernel_rfl) (by kernel_rfl) (by kernel_rfl) (by kernel_rfl) (fun _ _ _ h => h) (by rfl) (fun w7 => by go_simp) (fun _ => HC1'.out) ?_
      refine bar_norm (by go_simp; all_goals exact rfl) ?_
      refine bar1 6 (by kernel_rfl) ?_
      refine op_callf rfl (by rfl) 43 [.tmp 87] _ rfl body_clone [vk] rfl (R := fun v w' => w'.ownsRow wr.heap.size 30 32 v ej.length (hcells ej) ∧ Ext wr.drew w') (by
        refine (clone_any (ownsRow_upd HEE.out ((Upd.refl none' wr).drew) (fun _ _ => id)) (hcells_ones ej) (by have := HE32.out.1; omega)).mono ?_
        rintro e w' ⟨v, rfl, h1, h2⟩
        exact ⟨v, rfl, h1, h2⟩) ?_
      rintro v w5 ⟨hown5, hx5⟩
      obtain ⟨vA, vc, rfl⟩ := own_sl hown5
      have HO5 := Lib.hid hown5
      have HX5 := Lib.hid hx5
      have HS5 := Lib.hid (show w5.cell? ⟨gb, 1, none⟩ = some (.slice dA j dc) from hx5.cellv HC1'.out)
      clear hown5 hx5
      refine ⟨fun _ => HS5.out, ?_⟩
      refine bar_norm (by go_simp; all_goals exact rfl) ?_
      obtain ⟨i1, hi1, hy0, hy1, hy2⟩ := info_parts info_sl
      refine bar1 7 (by kernel_rfl) ?_
      refine op_build1Q rfl (by rfl) 33 65 _ rfl (.slice vA ej.length vc) rfl Tryz.underlying33 i1 _ hi1 hy0 hy1 rfl ?_
      have HX6 := Lib.hid (HX5.out.alloc (.cells #[.slice vA ej.length vc] 65))
      have HO6 := Lib.hid (ownsRow_upd HO5.out ((Upd.refl none' w5).alloc (.cells #[.slice vA ej.length vc] 65)) (fun _ _ => id))
      have HB6 := Lib.hid (Ext.blk HX6.out HBK.out)
      have HR6 := Lib.hid (ownsRow_upd HER6.out HX6.out (fun _ _ => id))
      have HN6 := Lib.hid (blk_alloc w5 (.cells #[.slice vA ej.length vc] 65))
      have HLM := Lib.hid (show j + 1 ≤ maxLen ∧ (j + 1) * 24 ≤ 140737488355328 by have h1 := HNE.out; have h2 := fits_3 HF.out.1 (by have := HM.out.2.2.2; omega); have h3 := HJ.out; unfold maxLen; omega)
      have HBW := Lib.hid (show w.heap.size + 2 ≤ (w5.alloc (.cells #[.slice vA ej.length vc] 65)).heap.size by have h1 := lt_of_blk HB6.out; have h2 := HGB.out; have h3 := HSW.out; omega)
      have HS1' : Hid (∀ u ∈ ([.slice vA ej.length vc] : List Value), u.oneCell' = true) := Lib.hid (fun u hu => by rw [List.mem_singleton.1 hu]; rfl)
      refine ⟨fun _ => cell_of_blk HB6.out 1, ?_⟩
      refine bar_norm (by go_simp; all_goals exact rfl) ?_
      refine bar1 8 (by kernel_rfl) ?_
      refine op_app1 rfl (by rfl) _ _ 33 rfl (w.heap.size + 2) 65 i1 _ 1 24 Tryz.underlying33 hi1 hy0 hy1 hy2 rfl (by decide) (.slice dA j dc) j _ rfl HR6.out ⟨w5.heap.size, 0, none⟩ 1 1 [.slice vA ej.length vc] rfl rfl (newc HN6.out) HS1'.out HLM.out.1 HLM.out.2 HBW.out ?_
      intro v7 w7 hown7 hgrow7 _
      obtain ⟨A7, c7, rfl⟩ := own_sl hown7
      have u7 : Upd (fun g => (Value.slice dA j dc).ownBlock = some g) (w5.alloc (.cells #[.slice vA ej.length vc] 65)) w7 := (Upd.refl _ _).grown hgrow7 (fun g hg => .inr hg)
      have HB7 := Lib.hid (blk_ty HB6.out u7 (tyIn_row HR6.out) (by decide))
      have HO7 := Lib.hid (own_ty HO6.out u7 (tyIn_row HR6.out) (by decide))
      have HOW7 := Lib.hid hown7
      have HUQ : Hid (Upd (fun g => g = gb ∨ (Value.slice dA j dc).ownBlock = some g) wr w7) := Lib.hid ((Upd.ext ((Upd.refl none' wr).drew.trans HX6.out) _).grown hgrow7 (fun g hg => .inr (.inr hg)))
      have HUW : Hid (Ext W w7) := Lib.hid ((HU.out.trans ((Upd.refl none' wr).drew.trans HX6.out)).grown hgrow7 (fun g hg => .inl (by have h1 := (HR6.out.lt g hg).1; have h2 := HSW.out; omega)))
      clear hown7 hgrow7 u7
      refine ⟨fun _ => cell_of_blk HB7.out 1, ?_⟩
      refine bar_norm (by go_simp; all_goals exact rfl) ?_
      refine bar1 9 (by kernel_rfl) ?_
      refine op_val (v := .pointer (some ⟨gb, 0, none⟩)) (w' := w7) rfl (by rfl) (by go_simp) ?_
      refine ⟨fun e => by simp [openB] at e, ?_⟩
      refine bar_norm (by go_simp; all_goals exact rfl) ?_
      refine bar1 10 (by kernel_rfl) ?_
      refine op_val (v := .pointer (some ⟨gb, 1, none⟩)) (w' := w7) rfl (by rfl) (by go_simp) ?_
      refine ⟨fun e => by simp [openB] at e, ?_⟩
      refine bar_norm (by go_simp; all_goals exact rfl) ?_
      refine bar1 11 (by kernel_rfl) ?_
      refine op_store1 rfl (by rfl) 33 _ _ rfl ⟨gb, 1, none⟩ rfl (.slice A7 (j + 1) c7) rfl rfl rfl size_edges _ (cell_of_blk HB7.out 1) (free_of_blk HB7.out 1) ?_
      refine ⟨fun e => by simp [openB] at e, ?_⟩
      refine bar_norm (by go_simp; all_goals exact rfl) ?_
      refine bar_done (by kernel_rfl) ?_ _
      have HB8 := Lib.hid (blk_set HB7.out 1 (.slice A7 (j + 1) c7))
      have U8 := (Upd.refl (one gb) w7).setCell (p := ⟨gb, 1, none⟩) (.inr rfl) (.slice A7 (j + 1) c7)
      have HO8 := Lib.hid (ownLow (ownsRow_upd (T := one gb) HO7.out U8 (fun g hg e => rowNe HO7.out HB7.out (by decide) g hg e)) (show w.heap.size + 2 ≤ wr.heap.size by have h1 := HU.out.size; have h2 := HSW.out; omega))
      have HW8 := Lib.hid (ownsRow_upd (T := one gb) HOW7.out U8 (fun g hg e => rowNe HOW7.out HB7.out (by decide) g hg e))
      have HUF := Lib.hid (HUQ.out.setCell (p := ⟨gb, 1, none⟩) (.inr (.inl rfl)) (.slice A7 (j + 1) c7))
      have HUX := Lib.hid (HUW.out.setCell (p := ⟨gb, 1, none⟩) (.inl HGB.out) (.slice A7 (j + 1) c7))
      have HFIN : Hid (GrAt (w.heap.size + 2) (w7.setCell ⟨gb, 1, none⟩ (.slice A7 (j + 1) c7)) gb { V with ev := .slice A7 (j + 1) c7, vs := V.vs ++ [.slice vA ej.length vc] } { D with es := D.es ++ [ej] }) := Lib.hid (GrAt.moreX HG.out HUF.out (fun g _ hg => by
        rcases hg with e | e
        · exact ⟨_, 106, _, by simp, by rw [e]; exact HG.out.blk⟩
        · obtain ⟨c, hc⟩ := rowT HG.out.er (g := g) (by rw [HDV.out]; exact e)
          exact ⟨c, 65, _, by simp, hc⟩) HB8.out (by rw [HJN.out]; exact HW8.out) HO8.out (fun g hg => (HO5.out.lt g hg).1))
      have hj3 : j ≤ 64 := by have h1 := HNE.out; have h2 := fits_3 HF.out.1 (by have := HM.out.2.2.2; omega); omega
      go_wp2_with fail
      have hjj := HJ.out
      refine ⟨⟨j + 1, _, _, by have := HNE.out; omega, rfl, HFIN.out, HD.out.1, ?_, HD.out.2.2.1, HD.out.2.2.2.1, HD.out.2.2.2.2.1, HD.out.2.2.2.2.2, HUX.out⟩, by simp [RowKit.intOf]; omega⟩
      show D.es ++ [ej] = es.take (j + 1)
      rw [HD.out.2.1, HEJ.out, List.take_succ_eq_append_getElem (by have := HNE.out; omega), List.getD_eq_getElem?_getD, List.getElem?_eq_getElem (by have := HNE.out; omega)]
      rfl
    · have hji : ¬ (j : Int) < ne := by omega
      have HJ := Lib.hid (show j = ne by have := HNE.out; omega)
      clear hlt hj
      have HGE : Hid (GrAt (w.heap.size + 2) wr gb V D ∧ D.p = gr0 es) := Lib.hid ⟨HG.out, by
        have h : D.es = es := by rw [HD.out.2.1, HJ.out, HNE.out, List.take_length]
        show GrP.mk D.es (D.ls.map _) D.ts = GrP.mk es [] []
        rw [h, HD.out.2.2.1, HD.out.2.2.2.1]
        rfl⟩
      have HOK8 := Lib.hid (blk_alloc wr (.cells #[.nilIface] 38))
      have HX8 := Lib.hid (HU.out.alloc (.cells #[.nilIface] 38))
      have HG8 := Lib.hid (HG.out.ext ((Upd.refl none' wr).alloc (.cells #[.nilIface] 38)))
      go_wp2_with fail
      have HLO : Hid (LowAt (w.heap.size + 2) wr.heap.size w.heap.size wb b mb tv) := Lib.hid ⟨by omega, by have := HLT.out.1; omega, by have := HLT.out.2.1; omega, by have := HLT.out.2.2.1; omega, fun g hg => by have := HLT.out.2.2.2 g hg; omega, by have h1 := HU.out.size; have h2 := HSW.out; omega⟩
      have HCL : Hid (ClAt (wr.alloc (.cells #[.nilIface] 38)) wr.heap.size w.heap.size wb b mb se tv o n root (.slice eA ne ec) (x, none)) := Lib.hid ⟨HOK8.out, Ext.blk HX8.out HA0.out, HW1.out.ext HX8.out, HS1.out.ext HX8.out⟩
      have HLF0 : Hid (LfAt (w.heap.size + 2) gb wr.heap.size w.heap.size wb b mb bb n se tv x o root (.slice eA ne ec) es ls (wr.alloc (.cells #[.nilIface] 38)) 0 V D (wr.alloc (.cells #[.nilIface] 38))) := Lib.hid ⟨HCL.out, HG8.out, HGE.out.2, HD.out.2.2.2.2.1, by
        rw [HD.out.2.2.2.2.2]
        have h := congrArg GrP.es HGE.out.2
        have h2 : D.es = es := h
        rw [h2], HD.out.1, Upd.refl _ _⟩
      have HQZ := Lib.hid (show w.heap.size + 2 ≤ (wr.alloc (.cells #[.nilIface] 38)).heap.size by have h1 := HX8.out.size; have h2 := HSW.out; omega)
      generalize wr.alloc (.cells #[.nilIface] 38) = W8 at *
      generalize wr.heap.size = q at *
      have HE8 := Lib.hid ((HE1.out.ext HX8.out).up (show B ≤ w.heap.size + 2 by have h1 := HBM.out.1; have h2 := HLT.out.2.1; omega) HQZ.out)
      have HG1' := Lib.hid ((HE1.out.ext HX8.out))
      clear HOK8 HG8 HCL HGE HD
      go_loopw [97] (fun jv wr => ∃ (j : Nat) (V : GrV) (D : GrD), j ≤ m ∧ jv = .int .i64 j ∧ LfAt (w.heap.size + 2) gb q w.heap.size wb b mb bb n se tv x o root (.slice eA ne ec) es ls W8 j V D wr) (fun jv _ => m - (RowKit.intOf jv).toNat)
      case atStart => exact ⟨0, _, _, Nat.zero_le _, rfl, HLF0.out⟩
      case round =>
        obtain ⟨j, V, D, hj, rfl, hlf⟩ := hrel
        have HL := Lib.hid hlf
        clear hlf
        by_cases hlt : j < m
        · have hji : (j : Int) < m := by omega
          have HJ := Lib.hid (show j < ls.length by have := HM.out.1; omega)
          obtain ⟨g0, o0, rfl⟩ := cells_some HC1.out HLA.out.1 (by rw [List.length_map]; have := HJ.out; omega)
          have HC8 := Lib.hid ((HC1.out.ext HX8.out).upd HL.out.u (fun ad had hs => by
            obtain rfl := Option.some.inj had
            have h0 := lt_of_cell (strC_get HC0.out j HJ.out)
            have h1 := HLA.out.2 _ rfl
            rcases hs with e | e | e
            · exact h1.1 e
            · exact h1.2.1 e
            · have h2 : g0 < w.heap.size := h0
              have h3 : w.heap.size + 2 ≤ g0 := e
              omega))
          have cc := strC_get HC8.out j HJ.out
          obtain ⟨s, hs⟩ : ∃ s, s = ls.getD j [] := ⟨_, rfl⟩
          rw [← hs] at cc
          have HSS := Lib.hid hs
          have HSL := Lib.hid (show s.length ≤ 65536 by
            have h1 := List.any_eq_false.1 HLG.out s (by rw [hs, List.getD_eq_getElem?_getD, List.getElem?_eq_getElem HJ.out]; exact List.getElem_mem _)
            have h2 : ¬ (decide (65536 < s.length) = true) := h1
            simpa using h2)
          have HEB : Hid (Env B se wr) := Lib.hid (HG1'.out.upd HL.out.u (fun k hk => by
            have h1 := HBM.out
            have h2 := HLT.out.2.1
            rcases hk with e | e | e <;> omega))
          have HER : Hid (Env (w.heap.size + 2) se wr) := Lib.hid (HEB.out.up (show B ≤ w.heap.size + 2 by have h1 := HBM.out.1; have h2 := HLT.out.2.1; omega) (by have h1 := HL.out.u.size; have h2 := HQZ.out; omega))
          have c0 : wr.cell? ⟨w.heap.size, 0, none⟩ = some (.pointer (some ⟨wb, 0, none⟩)) := cell_of_blk HL.out.cl.box 0
          have c2 : wr.cell? ⟨wb, 2, none⟩ = some (.int .u64 n) := HL.out.cl.wr.c2
          have hw : IntKind.u64.wrap (j : Int) = j := by rw [IntKind.wrap_u64]; have := HM.out.2.2.2; omega
          have hw2 : IntKind.u64.wrap ((n : Int) + j) = ((n + j : Nat) : Int) := by rw [IntKind.wrap_u64]; have := HM.out.2.2.2; omega
          have C1 := leaf_any (n + j) (by have := HM.out.2.2.2; omega) wr HEB.out.t10
          clear hs hlt
          go_wp2_with fail
          refine C1.mono ?_
          rintro e w5 ⟨rfl, hx5⟩
          have HX5 := Lib.hid hx5
          have HGR := Lib.hid (putsL_grow (leafPuts n (ls.take j)) (x, none))
          have HLL := Lib.hid (show (leafPuts n (ls.take j)).length ≤ 4096 by rw [leafPuts_len, List.length_take]; have h1 := HM.out; omega)
          have C2 := put1_any (HEB.out.ext HX5.out).g (HL.out.cl.ext HX5.out) HBM.out.1 HBM.out.2.1 (leafN (n + j)) (str s) (by have := leafN_size (n + j) (by have := HM.out.2.2.2; omega); unfold maxLen; omega) (by rw [str_size]; have := HSL.out; unfold maxLen; omega) (by have h1 := HGR.out.1; have h2 := HOO.out.2.2.1; have h3 := HLL.out; have h4 : (x, (none : EV)).1.nw = x.nw := rfl; omega) (by have h1 := HGR.out.2; have h2 := HOO.out.2.2.2; have h3 := HLL.out; have h4 : (x, (none : EV)).1.texts = x.texts := rfl; rw [h4] at h1; omega)
          change Calls _ _ #[.string (str leafB ++ str (decDigits (n + j))), _, _, _] _ _ at C2
          clear hx5 C1
          go_wp2_with fail
          refine C2.mono ?_
          rintro e w6 ⟨rfl, hcl6, hu6⟩
          have HCL6 := Lib.hid hcl6
          have HU6 := Lib.hid (show Upd (three b mb q) wr w6 from (Upd.ext HX5.out _).trans hu6)
          have HEB6 := Lib.hid (HEB.out.upd HU6.out (fun k hk => by
            have h1 := HBM.out
            have h2 := HLO.out.q
            have h3 := HLT.out.2.1
            rcases hk with e | e | e <;> omega))
          have HS6 := Lib.hid (HEB6.out.g.size)
          have C3 := leaf_h w6 (str s) (by rw [str_size]; have := HSL.out; omega) HEB6.out.sgw HEB6.out.sh
          rw [show (str s).data.toList = s by first | rfl | simp] at C3
          clear hcl6 hu6 C2
          go_wp2_with fail
          refine C3.mono ?_
          rintro e w7 ⟨rfl, hx7⟩
          have HX7 := Lib.hid hx7
          have HGI := Lib.hid (HL.out.inv HF.out.1 HF.out.2 (by have := HJ.out; omega) (by have := HM.out; omega))
          have HG32 := Lib.hid (HL.out.inv32 HF.out.1 HF.out.2 (by have := HJ.out; omega) (by have := HM.out; omega))
          have HSL2 := Lib.hid (show w.heap.size + 2 ≤ wr.heap.size by have h1 := HL.out.u.size; have h2 := HQZ.out; omega)
          have HE7 : Hid (Env (w.heap.size + 2) se w7) := Lib.hid ((HEB6.out.ext hx7).up (show B ≤ w.heap.size + 2 by have h1 := HBM.out.1; have h2 := HLT.out.2.1; omega) (by have h1 := HU6.out.size; have h2 := hx7.size; have h3 := HSL2.out; omega))
          have HG7 : Hid (GrAt (w.heap.size + 2) w7 gb V D) := Lib.hid ((HL.out.gr.frame HU6.out (frame_q HLO.out HL.out.cl.ok errT)).ext hx7)
          have C4 := gadd_any HE7.out HG7.out (leafH s) (shaB_len _) HG32.out.1 (by have h1 := HL.out.n; have h2 := HM.out; omega) HG32.out.2.1 HG32.out.2.2 (M := 3 * j) (by have h1 := HJ.out; have h2 := HM.out; omega) HGI.out.k
          clear hx7 C3
          go_wp2_with fail
          refine C4.mono ?_
          rintro e w8 ⟨V', D', rfl, hg8, hp8, hn8, hl8, hb8, hu8, hk8⟩
          have HNX := Lib.hid (LfAt.next HLO.out HL.out HF.out.1 HF.out.2 HJ.out (by have := HM.out; omega) HSS.out HCL6.out HU6.out HX7.out hg8 hp8 hn8 hl8 hb8 hu8 hk8)
          clear hg8 hp8 hn8 hl8 hb8 hu8 hk8 C4
          have hj3 : j ≤ 4096 := by have h1 := HJ.out; have h2 := HM.out; omega
          have hjm : j + 1 ≤ m := by have h1 := HJ.out; have h2 := HM.out.1; omega
          have HJM := Lib.hid hjm
          clear hjm
          go_wp2_with fail
          have hjj := HJM.out
          exact ⟨⟨j + 1, V', D', hjj, rfl, HNX.out⟩, by simp [RowKit.intOf]; omega⟩
        · have hji : ¬ (j : Int) < m := by omega
          have hjm : j = m := by omega
          have HJ := Lib.hid (show ls.take j = ls ∧ j = m from ⟨by rw [List.take_of_length_le (by have h1 := HM.out.1; omega)], hjm⟩)
          clear hjm
          have HGI := Lib.hid (HL.out.inv HF.out.1 HF.out.2 (by have := HJ.out.2; have := HM.out.1; omega) (by have := HM.out; omega))
          have HG32 := Lib.hid (HL.out.inv32 HF.out.1 HF.out.2 (by have := HJ.out.2; have := HM.out.1; omega) (by have := HM.out; omega))
          have HCL9 : Hid (ClAt wr q w.heap.size wb b mb se tv o n root (.slice eA ne ec) (putsL (x, none) (leafPuts n ls))) := Lib.hid (by have h := HL.out.cl; rw [HJ.out.1] at h; exact h)
          have HDP : Hid (D.p = appG n es ls ∧ D.n = n + m ∧ D.l = peaksE nodeH D.es ∧ V.bb = bb) := Lib.hid ⟨by have h := HL.out.p; rw [HJ.out.1] at h; exact h, by have h := HL.out.n; rw [HJ.out.2] at h; exact h, HL.out.l, HL.out.bb⟩
          have C5 := gtiles_any HL.out.gr HGI.out.t (by have := HGI.out.t8; have h2 : D.p.ts.length = D.ts.length := rfl; omega) (M := 3 * j) (by have h1 := HJ.out.2; have h2 := HM.out; omega) HGI.out.k (by have h1 := HDP.out.2.1; have h2 := HM.out; omega)
          clear hlt hj
          go_wp2_with fail
          refine C5.mono ?_
          rintro e w9 ⟨v, out, rfl, hown, hmap, hrows, hx9⟩
          obtain ⟨tA, tc, rfl⟩ := own_sl hown
          have HX9 := Lib.hid hx9
          have HTL := Lib.hid (ownLow hown (show w.heap.size + 2 ≤ wr.heap.size by have h1 := HL.out.u.size; have h2 := HQZ.out; omega))
          have HOT : Hid (∀ d ∈ out, TOk d.p) := Lib.hid (fun d hd => by
            have h := tiles_ok HGI.out (by rw [HDP.out.1]; exact appG_lok HF.out.1 HF.out.2 (by have := HM.out; omega)) (by have h1 := HDP.out.2.1; have h2 := HM.out; omega) d.p
            have h3 : d.p ∈ out.map LaidD.p := List.mem_map.2 ⟨d, hd, rfl⟩
            rw [hmap] at h3
            exact h h3)
          have HOL : Hid (out.length ≤ 65536) := Lib.hid (by
            have h := tilesP_len (n := D.n) (G := D.p) HGI.out.k.l D.ts.length
            rw [← hmap, List.length_map] at h
            have h2 : D.ts.length ≤ 3 := HGI.out.t8
            have h3 := HJ.out.2
            have h4 := HM.out
            have h5 := Nat.mul_le_mul_right (3 * j + 1) h2
            omega)
          have HMP := Lib.hid hmap
          have HT0 : Hid (TlAt (w.heap.size + 2) gb q w.heap.size wb b mb n se tv (putsL (x, none) (leafPuts n ls)) o root (.slice eA ne ec) W8 V D (.slice tA out.length tc) out 0 w9) := Lib.hid ⟨HCL9.out.ext hx9, HL.out.gr.ext hx9, HTL.out, fun d hd => ownsRow_upd (hrows d hd) hx9 (fun _ _ => id), HL.out.u.trans (Upd.ext hx9 _)⟩
          clear hown hrows hmap hx9 C5
          obtain ⟨on, hon⟩ : ∃ on, on = out.length := ⟨_, rfl⟩
          have HON := Lib.hid hon
          rw [← hon] at HT0 HTL HOL ⊢
          clear hon
          go_wp2_with fail
          go_loopw [126] (fun kv wr => ∃ (k : Nat), k ≤ on ∧ kv = .int .i64 k ∧ TlAt (w.heap.size + 2) gb q w.heap.size wb b mb n se tv (putsL (x, none) (leafPuts n ls)) o root (.slice eA ne ec) W8 V D (.slice tA on tc) out k wr) (fun kv _ => on - (RowKit.intOf kv).toNat)
          case atStart => exact ⟨0, Nat.zero_le _, rfl, HT0.out⟩
          case round =>
            obtain ⟨k, hk, rfl, htl⟩ := hrel
            have HT := Lib.hid htl
            clear htl
            by_cases hlt : k < on
            · have hki : (k : Int) < on := by omega
              obtain ⟨d, hd⟩ : ∃ d, out[k]? = some d := ⟨_, List.getElem?_eq_getElem (by have := HON.out; omega)⟩
              have HDK := Lib.hid hd
              have HTO := Lib.hid (HOT.out d (List.mem_of_getElem? hd))
              have HLK := Lib.hid hlt
              obtain ⟨tg, htg⟩ : ∃ g, tA = some ⟨g, 0, none⟩ := by
                rcases own_form HT.out.tl with ⟨_, h0⟩ | ⟨g, c, h1, _⟩
                · have := HON.out; omega
                · simp only [Value.slice.injEq] at h1; exact ⟨g, h1.1⟩
              subst htg
              have HCK : Hid (∀ i v, (laidC d)[i]? = some v → wr.cell? ⟨tg, k * 4 + i, none⟩ = some v) := Lib.hid (fun i v hv => by
                have h := HT.out.tl.cells (g := tg) rfl (k * 4 + i) v (laidCs_get HDK.out i v hv)
                rwa [Addr.add_lit, Nat.zero_add] at h)
              obtain ⟨hg, hc, hdv⟩ : ∃ g c, d.v = .slice (some ⟨g, 0, none⟩) d.hs.length c := by
                rcases own_form (HT.out.hs d (List.mem_of_getElem? HDK.out)) with ⟨_, h0⟩ | ⟨g, c, h1, _⟩
                · have h1 := HTO.out.l; have h2 := HTO.out.w1; have h3 : d.hs.length = d.wd := h1; have h4 : 1 ≤ d.wd := h2; omega
                · exact ⟨g, c, h1⟩
              have HDV := Lib.hid hdv
              have HL1 : Hid (∀ u ∈ laidC d, u.oneCell' = true) := Lib.hid (fun u hu => by
                unfold laidC at hu
                rw [HDV.out] at hu
                simp only [List.mem_cons, List.not_mem_nil, or_false] at hu
                rcases hu with e | e | e | e <;> (rw [e]; rfl))
              have HQ1 := Lib.hid (blk_alloc wr (.cells (laidC d).toArray 117))
              have HX1' := Lib.hid ((Upd.refl none' wr).alloc (.cells (laidC d).toArray 117))
              clear hd hlt hk hdv
              have HCT : Hid (∀ i v, ([.int .u8 d.k, .int .u64 d.i, .int .i64 d.wd] : List Value)[i]? = some v → (wr.alloc (.cells (laidC d).toArray 117)).cell? ⟨wr.heap.size, 0 + i, none⟩ = some v) := Lib.hid (fun i v hv => by
                rw [cell_of_blk HQ1.out, Nat.zero_add]
                unfold laidC
                rcases i with _ | _ | _ | i
                · simpa using hv
                · simpa using hv
                · simpa using hv
                · simp at hv)
              have HGRL := Lib.hid (putsL_grow (leafPuts n ls) (x, none))
              have HGRT := Lib.hid (putsL_grow ((out.take k).map (fun x => tileT x.p)) (putsL (x, none) (leafPuts n ls)))
              have HLL := Lib.hid (show (leafPuts n ls).length ≤ 4096 by rw [leafPuts_len]; have h1 := HM.out; omega)
              have HLT2 := Lib.hid (show ((out.take k).map (fun x => tileT x.p)).length ≤ 65536 by rw [List.length_map, List.length_take]; have h1 := HOL.out; have h2 := HON.out; omega)
              have CP := path_any (wr.alloc (.cells (laidC d).toArray 117)) d.k d.i d.wd HTO.out.k HTO.out.i HTO.out.w1 HTO.out.w2 ((HG1'.out.upd HT.out.u (fun k hk => by
                have h1 := HBM.out
                have h2 := HLT.out.2.1
                rcases hk with e | e | e <;> omega)).ext HX1'.out).t10
              go_wp2_with (first | refine wpList_loadAgg rfl 117 _ rfl tg (k * 4) rfl (laidC d) Tryz.underlying117 rfl laid_size HCK.out ?_ | refine store_new rfl 117 _ _ rfl _ _ rfl (laidC d) rfl laid_size rfl HL1.out ?_ | refine wpList_loadAgg rfl 115 _ rfl wr.heap.size 0 rfl [.int .u8 d.k, .int .u64 d.i, .int .i64 d.wd] Tryz.underlying115 rfl size_tile HCT.out ?_)
              refine CP.mono ?_
              rintro e w5 ⟨rfl, hx5⟩
              have HX5 := Lib.hid (HX1'.out.trans hx5)
              have HQ5 := Lib.hid (Ext.blk hx5 HQ1.out)
              have c3 : w5.cell? ⟨wr.heap.size, 3, none⟩ = some (.slice (some ⟨hg, 0, none⟩) d.hs.length hc) := by
                rw [cell_of_blk HQ5.out]
                unfold laidC
                rw [HDV.out]
                rfl
              have CE := encode_any w5 hg 0 d.hs hc HTO.out.h (by
                have h := ownsRow_upd (HT.out.hs d (List.mem_of_getElem? HDK.out)) HX5.out (fun _ _ => id)
                rw [HDV.out] at h
                exact cells_own h) (by have h1 := HTO.out.l; have h2 := HTO.out.w1; have h3 : d.hs.length = d.wd := h1; have h4 : 1 ≤ d.wd := h2; omega) (by have h1 := HTO.out.l; have h2 := HTO.out.w2; have h3 : d.hs.length = d.wd := h1; have h4 : d.wd ≤ 256 := h2; omega)
              clear hx5 CP
              go_wp2_with fail
              refine CE.mono ?_
              rintro e w6 ⟨rfl, hx6⟩
              have HX6 := Lib.hid (HX5.out.trans hx6)
              have HEB := Lib.hid (HG1'.out.upd HT.out.u (fun k hk => by
                have h1 := HBM.out
                have h2 := HLT.out.2.1
                rcases hk with e | e | e <;> omega))
              have C2 := put1_any (HEB.out.ext HX6.out).g (HT.out.cl.ext HX6.out) HBM.out.1 HBM.out.2.1 (str (pathB d.k d.i d.wd)) (str d.hs.flatten) (by rw [str_size]; have h := pathB_len d.k d.i d.wd (by have h : d.k ≤ 2 := HTO.out.k; omega) HTO.out.i (by have h : d.wd ≤ 256 := HTO.out.w2; omega); unfold maxLen; omega) (by
                  rw [str_size, flat_len (show H32 d.hs from HTO.out.h)]
                  have h1 := HTO.out.l; have h2 := HTO.out.w2; have h3 : d.hs.length = d.wd := h1; have h4 : d.wd ≤ 256 := h2
                  have h5 : d.p.2.2.2.length = d.hs.length := rfl
                  unfold maxLen; omega)
                (by have h1 := HGRL.out.1; have h2 := HGRT.out.1; have h3 := HOO.out.2.2.1; have h4 := HLL.out; have h5 := HLT2.out; have h6 : (x, (none : EV)).1.nw = x.nw := rfl; omega)
                (by have h1 := HGRL.out.2; have h2 := HGRT.out.2; have h3 := HOO.out.2.2.2; have h4 := HLL.out; have h5 := HLT2.out; have h6 : (x, (none : EV)).1.texts = x.texts := rfl; rw [h6] at h1; omega)
              clear hx6 CE c3
              go_wp2_with fail
              refine C2.mono ?_
              rintro e w7 ⟨rfl, hcl7, hu7⟩
              have HNX := Lib.hid (TlAt.next HLO.out (HT.out.ext HX6.out) HDK.out hcl7 hu7)
              clear hcl7 hu7 C2
              have hj3 : k ≤ 65536 := by have h1 := HLK.out; have h2 := HOL.out; omega
              go_wp2_with fail
              have hjj := HLK.out
              exact ⟨⟨k + 1, by omega, rfl, HNX.out⟩, by simp [RowKit.intOf]; omega⟩
            · have hki : ¬ (k : Int) < on := by omega
              have HR9 : Hid (ClAt wr q w.heap.size wb b mb se tv o n root (.slice eA ne ec) (putsL (x, none) (appPuts n es ls))) := Lib.hid (by
                have h := HT.out.cl
                have h2 : out.take k = out := List.take_of_length_le (by have := HON.out; omega)
                have h4 : D.ts.length = (appG n es ls).ts.length := congrArg (fun G : GrP => G.ts.length) HDP.out.1
                have h3 : (out.map fun x => tileT x.p) = (tilesP (n + ls.length) (appG n es ls) (appG n es ls).ts.length).map tileT := by
                  rw [show (out.map fun x => tileT x.p) = (out.map LaidD.p).map tileT by simp, HMP.out, HDP.out.2.1, HDP.out.1, h4, HM.out.1]
                rw [h2, h3, ← putsL_append] at h
                exact h)
              have HDE : Hid (D.es = (appG n es ls).es) := Lib.hid (congrArg GrP.es HDP.out.1)
              obtain ⟨rt, hrt⟩ : ∃ rt, rt = rootE (appG n es ls).es := ⟨_, rfl⟩
              have HRT := Lib.hid hrt
              have HFD : Hid (foldP D.l = rt) := Lib.hid (by rw [hrt, HDP.out.2.2.1, HDE.out]; rfl)
              have HR32 : Hid (rt.length = 32) := Lib.hid (by rw [← HFD.out]; exact foldP_len HG32.out.1)
              obtain ⟨N, hN⟩ : ∃ N, N = n + m := ⟨_, rfl⟩
              have HNN := Lib.hid hN
              obtain ⟨R, hR⟩ : ∃ R, R = putsL (x, none) (appPuts n es ls) := ⟨_, rfl⟩
              have HRR := Lib.hid hR
              rw [← hR] at HR9
              have HEB := Lib.hid (HG1'.out.upd HT.out.u (fun k hk => by
                have h1 := HBM.out
                have h2 := HLT.out.2.1
                rcases hk with e | e | e <;> omega))
              clear hrt hN hR hlt hk
              go_wp2_with fail
              refine region_tail3 11 [.inl (.pointer (some ⟨wb, 0, none⟩)), .inl (.pointer (some ⟨wb, 0, none⟩)), .inl (.pointer (some ⟨wb, 1, none⟩)), .inl (.pointer (some ⟨wb, 1, none⟩)), .inl (.string (str o)), .inl (.pointer (some ⟨bb, 0, none⟩)), .inl (.int .u64 N), .inl (.pointer (some ⟨bb, 0, none⟩)), .inl (hashV rt), .inl (ckV o N rt), .inr (PZ wr.heap.size)] (by kernel_rfl) ?_ (by rfl) (by rfl) (by rfl) (by rfl) (by rfl) ?_ ?_
              · intro p hp
                simp only [List.mem_cons, reduceCtorEq, Sum.inr.injEq, false_or, or_false, List.not_mem_nil, or_self] at hp
                subst hp
                exact pz_lasts _
              rotate_left
              · intro v' w' X hv
                obtain ⟨cg, hcg0, h22, hcg⟩ := (slot_prop3 (hv 10 _ 22 rfl rfl) rfl : PZ _ (v' 10) w')
                have h156 := slot_val3 (hv 9 _ 156 rfl rfl) rfl
                have HX10 : Hid (Ext wr (w'.setRow cg (ckC o N rt).toArray)) := Lib.hid (X.setRow (.inl hcg0) _)
                have HC10 := Lib.hid (blk_setRow hcg (ckC o N rt).toArray)
                have HS10 := Lib.hid (ck_size o N rt HR32.out)
                have HO10 : Hid (over zckA.toList 0 (ckC o N rt) = ckC o N rt) := Lib.hid (over_all _ _ (by rw [ck_len o N rt HR32.out]; rfl))
                refine any_normQ (by simp only [List.take, putAll]; rewrite [h156, h22]; go_simp; all_goals exact rfl) ?_
                refine any1 11 (by kernel_rfl) ?_
                refine op_storeAggAt rfl (by rfl) 32 _ _ rfl cg 0 rfl (ckC o N rt) rfl HS10.out zckA.toList 32 hcg (by rw [ck_len o N rt HR32.out]; exact Nat.le_refl _) (ck_one o N rt) ?_
                rw [HO10.out]
                refine any_normQ (by go_simp; all_goals exact rfl) ?_
                refine wpAny_done (by kernel_rfl) ?_ _
                generalize w'.setRow cg (ckC o N rt).toArray = W10 at *
                have HCL10 := Lib.hid (HR9.out.ext HX10.out)
                have HWU10 : Hid (Upd (fun g => g = b ∨ g = mb ∨ w.heap.size + 2 ≤ g) W W10) := Lib.hid ((Upd.ext HX8.out _).trans (HT.out.u.trans (Upd.ext HX10.out _)))
                have HU10 : Hid (Upd (three b mb wb) w W10) := Lib.hid (((Upd.ext HX1.out _).trans HWU10.out).mono (fun g hg hs => by
                  rcases hs with e | e | e
                  · exact .inl e
                  · exact .inr (.inl e)
                  · omega))
                have HZ10 : Hid (W10.heap[w.heap.size + 1]? = some (.cells zckA 32 (0, 0))) := Lib.hid (HWU10.out.blk HZ0.out (fun e => by
                  have h1 := HLT.out.2.1
                  have h2 := HLT.out.2.2.1
                  rcases e with e | e | e <;> omega))
                have HG10 : Hid (EgAt B W10 (.slice eA ne ec) es vs) := Lib.hid (by
                  have h := HG1.out.upd HWU10.out (fun g hg hs => by
                    have h3 := HSW.out
                    rcases hs with e | e | e
                    · exact ⟨_, (congrArg (fun k => W.heap[k]?) e).trans HS1.out.blk, not_eg (by decide) (by decide)⟩
                    · rw [e]; exact HS1.out.mb_eg
                    · omega)
                  exact h)
                have HBN : Hid (¬ one wb b ∧ ¬ one wb mb ∧ ∀ g, tv.ownBlock = some g → ¬ one wb g) := Lib.hid (by
                  refine ⟨fun e => tyNe HS1.out.blk HW1.out.blk (by decide) (show b = wb from e), fun e => ?_, fun g hg e => rowNe HS1.out.row HW1.out.blk (by decide) g hg (show g = wb from e)⟩
                  obtain ⟨es', c', hmb⟩ := HS1.out.tex.blk
                  have e2 : mb = wb := e
                  rw [e2, HW1.out.blk] at hmb
                  cases hmb)
                have HE10 := Lib.hid (HEB.out.ext HX10.out)
                have c11 : W10.cell? ⟨q, 0, none⟩ = some (evS se R.2) := cell_of_blk HCL10.out.ok 0
                clear X hv h22 hcg h156
                cases hr2 : R.2 with
                | some er =>
                  obtain ⟨k, p⟩ := er
                  rw [hr2] at c11
                  replace c11 : W10.cell? ⟨q, 0, none⟩ = some (sv se k) := c11
                  have HR2 := Lib.hid hr2
                  clear hr2
                  have c2b : W10.cell? ⟨w.heap.size, 0, none⟩ = some (.pointer (some ⟨wb, 0, none⟩)) := cell_of_blk HCL10.out.box 0
                  have HAR : Hid (appR x o n es ls = R) := Lib.hid (by unfold appR; rw [← HRR.out]; unfold putP; rw [HR2.out])
                  have HA2 : Hid (∃ er, (appR x o n es ls).2 = some er) := Lib.hid ⟨_, by rw [HAR.out]; exact HR2.out⟩
                  have HWF := Lib.hid HCL10.out.wr
                  have HUF := HU10
                  have HSF : Hid (StAt W10 b mb tv (appR x o n es ls).1) := Lib.hid (by rw [HAR.out]; exact HCL10.out.st)
                  have HZF := HZ10
                  have HGF := HG10
                  have HEF := HE10
                  have e37 : W10.cell? ⟨wb, 37, none⟩ = some (.bool false) := HWF.out.c37 HR.out
                  have ef := free_of_blk HWF.out.blk 37
                  have HWE := Lib.hid (HWF.out.ends HR.out)
                  have HXE : Hid (Upd (three b mb wb) w (W10.setCell ⟨wb, 37, none⟩ (.bool true))) := Lib.hid (HUF.out.setCell (p := ⟨wb, 37, none⟩) (.inr (.inr (.inr rfl))) _)
                  have HSE : Hid (StAt (W10.setCell ⟨wb, 37, none⟩ (.bool true)) b mb tv (appR x o n es ls).1) := Lib.hid (HSF.out.upd ((Upd.refl (one wb) W10).setCell (p := ⟨wb, 37, none⟩) (.inr rfl) (.bool true)) HBN.out.1 HBN.out.2.1 HBN.out.2.2)
                  have HZE : Hid ((W10.setCell ⟨wb, 37, none⟩ (.bool true)).heap[w.heap.size + 1]? = some (.cells zckA 32 (0, 0))) := Lib.hid ((((Upd.refl (one wb) W10).setCell (p := ⟨wb, 37, none⟩) (.inr rfl) (.bool true))).blk HZF.out (fun e => by have h1 := HLT.out.1; have h2 : w.heap.size + 1 = wb := e; omega))
                  have HEGE : Hid (EgAt B (W10.setCell ⟨wb, 37, none⟩ (.bool true)) (.slice eA ne ec) es vs) := Lib.hid (HGF.out.one ((Upd.refl (one wb) W10).setCell (p := ⟨wb, 37, none⟩) (.inr rfl) (.bool true)) HWF.out.blk (by decide) (by decide))
                  have HEE := Lib.hid (HEF.out.upd ((Upd.refl (one wb) W10).setCell (p := ⟨wb, 37, none⟩) (.inr rfl) (.bool true)) (fun k hk => by rw [show k = wb from hk]; exact HBM.out.2.2))
                  have HG8' : Hid ((W10.setCell ⟨wb, 37, none⟩ (.bool true)).cell? ⟨1, 0, none⟩ = some (sv se 8)) := Lib.hid (HEE.out.g.cell 8 (by omega) (by omega))
                  go_wp2_with fail
                  clear e37 ef
                  generalize W10.setCell ⟨wb, 37, none⟩ (.bool true) = W11 at *
                  have HZD := Lib.hid (((Upd.refl none' W11).drew).blk HZE.out id)
                  have HGD : Hid (W11.drew.cell? ⟨1, 0, none⟩ = some (sv se 8)) := Lib.hid (show W11.cell? _ = _ from HG8'.out)
                  have HU13 : Hid (Upd (one (w.heap.size + 1)) W11 (W11.drew.setRow (w.heap.size + 1) (ckC [] 0 z32B).toArray)) := Lib.hid (((Upd.refl (one (w.heap.size + 1)) W11).drew).setRow (.inr rfl) _)
                  have HGD2 : Hid ((W11.drew.setRow (w.heap.size + 1) (ckC [] 0 z32B).toArray).cell? ⟨1, 0, none⟩ = some (sv se 8)) := Lib.hid (by
                    rw [Upd.cell HU13.out (lt_of_cell HG8'.out) (fun e => ?_)]
                    · exact HG8'.out
                    · have e2 : 1 = w.heap.size + 1 := e
                      have h2 := ((HEF.out.g).low 8 (by omega) (by omega)).2
                      have h3 := HBM.out.1
                      have h4 := HLT.out.2.1
                      omega)
                  have HFIN : Hid (StAt (W11.drew.setRow (w.heap.size + 1) (ckC [] 0 z32B).toArray) b mb tv (appR x o n es ls).1 ∧ Upd (three b mb wb) w (W11.drew.setRow (w.heap.size + 1) (ckC [] 0 z32B).toArray) ∧ WrAt (W11.drew.setRow (w.heap.size + 1) (ckC [] 0 z32B).toArray) wb (.pointer (some ⟨b, 0, none⟩)) o n root (.slice eA ne ec) true ∧ EgAt B (W11.drew.setRow (w.heap.size + 1) (ckC [] 0 z32B).toArray) (.slice eA ne ec) es vs) := Lib.hid
                    ⟨HSE.out.upd HU13.out (fun e => by have h1 := HLT.out.2.1; have h2 : b = w.heap.size + 1 := e; omega) (fun e => by have h1 := HLT.out.2.2.1; have h2 : mb = w.heap.size + 1 := e; omega) (fun g hg e => by have h1 := HLT.out.2.2.2 g hg; have h2 : g = w.heap.size + 1 := e; omega),
                     (HXE.out.drew).setRow (.inl (by omega)) _,
                     HWE.out.upd HU13.out (fun e => by have h1 := HLT.out.1; have h2 : wb = w.heap.size + 1 := e; omega),
                     HEGE.out.one HU13.out HZE.out (by decide) (by decide)⟩
                  have HQF := Lib.hid (blk_setRow HZD.out (ckC [] 0 z32B).toArray)
                  have HOV : Hid (over zckA.toList 0 (ckC [] 0 z32B) = ckC [] 0 z32B) := Lib.hid (over_all _ _ (by rw [ck_len _ _ _ z32B_len]; rfl))
                  refine wp_region_any (by kernel_rfl) ?_
                  refine any_seqM (t := 0) 2 (W11.drew.setRow (w.heap.size + 1) (ckC [] 0 z32B).toArray) [0, 1, 2, 3] [_, _, _, _] (by kernel_rfl) rfl (by kernel_rfl) (by kernel_rfl) (by kernel_rfl) (by kernel_rfl) ?_
                  simp only [List.getElem_toArray, List.getElem_cons_succ, List.getElem_cons_zero]
                  refine m_read (v := .agg (ckC [] 0 z32B).toArray) rfl (by decide) (exec_build _ [] rfl [] _ rfl (run_zck _)) (exec_build _ [] rfl [] _ rfl (run_zck _)) ?_
                  refine m_norm (by go_simp; exact rfl) ?_
                  refine m_read (v := sv se 8) rfl (by decide) (run_ld1 _ rfl ⟨1, 0, none⟩ _ rfl Tryz.underlying38 rfl HGD.out) (run_ld1 _ rfl ⟨1, 0, none⟩ _ rfl Tryz.underlying38 rfl HGD2.out) ?_
                  refine m_norm (by go_simp; exact rfl) ?_
                  refine m_store rfl ((run_storeAggAt 32 _ _ rfl (w.heap.size + 1) 0 rfl (ckC [] 0 z32B) rfl ckz_size zckA.toList 32 HZD.out (by rw [ck_len _ _ _ z32B_len]; exact Nat.le_refl _) (ck_one _ _ _)).trans (by rw [HOV.out])) ?_
                  refine m_norm (by go_simp; exact rfl) ?_
                  refine m_read (v := sv se 8) rfl (by decide) (by go_simp) (by go_simp) ?_
                  refine m_norm (by go_simp; exact rfl) ?_
                  refine m_nil ?_
                  refine wpAny_done (by kernel_rfl) ?_ _
                  go_wp2_with fail
                  have hsz : (Tryz.prog.info? 32).map (·.size) = some (ckC [] 0 z32B).toArray.size := ckz_size
                  refine bodyPost_ret (v := .tuple #[.agg (ckC [] 0 z32B).toArray, sv se 8]) (results_cell_twoV rfl _ _ (w.heap.size + 1) 32 _ (0, 0) _ (sv se 8) rfl rfl HQF.out Tryz.underlying32 rfl hsz) rfl ⟨HFIN.out.1, HFIN.out.2.1, ?_⟩
                  obtain ⟨er, her⟩ := HA2.out
                  rw [her]
                  exact ⟨rfl, HFIN.out.2.2.1, HFIN.out.2.2.2⟩
                | none =>
                  rw [hr2] at c11
                  replace c11 : W10.cell? ⟨q, 0, none⟩ = some .nilIface := c11
                  have HR2 := Lib.hid hr2
                  clear hr2
                  go_wp2_with fail
                  have HA37 : Hid (A37 w.heap.size wb b cg (ckC o N rt) W10) := Lib.hid ⟨cell_of_blk HCL10.out.box 0, HCL10.out.wr.c0, blk_cells HC10.out⟩
                  have HA37D : Hid (A37 w.heap.size wb b cg (ckC o N rt) W10.drew) := Lib.hid ⟨HA37.out.fb, HA37.out.fs, HA37.out.fc⟩
                  obtain ⟨r', hr'⟩ : ∃ r', r' = R.1.put (str headB) (str (ckptB o N rt)) := ⟨_, rfl⟩
                  have HAR : Hid (appR x o n es ls = r') := Lib.hid (by
                    unfold appR
                    rw [← HRR.out, ← HM.out.1, ← HNN.out, ← HRT.out]
                    unfold putP
                    rw [HR2.out, hr'])
                  have HRP := Lib.hid hr'
                  have HGR9 := Lib.hid (putsL_grow (appPuts n es ls) (x, none))
                  have HAL : Hid ((appPuts n es ls).length ≤ 131072) := Lib.hid (by
                    unfold appPuts
                    rw [List.length_append, leafPuts_len, List.length_map]
                    have h1 := tilesP_len (n := n + ls.length) (G := appG n es ls) (M := 3 * j) (by rw [← HDP.out.1]; exact HGI.out.k.l) (appG n es ls).ts.length
                    have h4 : D.ts.length = (appG n es ls).ts.length := congrArg (fun G : GrP => G.ts.length) HDP.out.1
                    have h2 : D.ts.length ≤ 3 := HGI.out.t8
                    have h3 := HJ.out.2
                    have h5 := HM.out
                    have h6 := Nat.mul_le_mul_right (3 * j + 1) h2
                    rw [← h4] at h1 ⊢
                    omega)
                  have HCG0 := Lib.hid hcg0
                  have HNE3 : Hid (cg ≠ b ∧ cg ≠ mb ∧ cg ≠ q ∧ cg ≠ wb) := Lib.hid (by
                    have h1 := HLT.out
                    have h2 := HT.out.u.size
                    have h3 := HQZ.out
                    have h4 := lt_of_blk HT.out.cl.ok
                    refine ⟨?_, ?_, ?_, ?_⟩ <;> omega)
                  clear hr'
                  refine region_bar (A37 w.heap.size wb b cg (ckC o N rt)) [6] (by kernel_rfl) ?_
                  change wpAnyB _ _ _ _ _ _ _ _ _ (World.drew _)
                  refine bar_read 0 (.pointer (some ⟨wb, 0, none⟩)) rfl (by kernel_rfl) (by kernel_rfl) (by kernel_rfl) (by kernel_rfl) (by kernel_rfl) (fun _ _ _ h => h) (by rfl) (fun w7 h7 => run_ld1 w7 rfl ⟨w.heap.size, 0, none⟩ _ rfl Tryz.underlying26 rfl h7.fb) HA37D.out ?_
                  refine bar_norm (by go_simp; all_goals exact rfl) ?_
                  refine bar_pure 1 (.pointer (some ⟨wb, 0, none⟩)) rfl (by kernel_rfl) (by kernel_rfl) (by kernel_rfl) (by kernel_rfl) (fun _ _ _ h => h) (by rfl) (fun w7 => by go_simp) (fun _ => HA37D.out) ?_
                  refine bar_norm (by go_simp; all_goals exact rfl) ?_
                  refine bar_pure 2 (.pointer (some ⟨wb, 0, none⟩)) rfl (by kernel_rfl) (by kernel_rfl) (by kernel_rfl) (by kernel_rfl) (fun _ _ _ h => h) (by rfl) (fun w7 => by go_simp) (fun _ => HA37D.out) ?_
                  refine bar_norm (by go_simp; all_goals exact rfl) ?_
                  refine bar_read 3 (.pointer (some ⟨b, 0, none⟩)) rfl (by kernel_rfl) (by kernel_rfl) (by kernel_rfl) (by kernel_rfl) (by kernel_rfl) (fun _ _ _ h => h) (by rfl) (fun w7 h7 => run_ld1 w7 rfl ⟨wb, 0, none⟩ _ rfl Tryz.underlying27 rfl h7.fs) HA37D.out ?_
                  refine bar_norm (by go_simp; all_goals exact rfl) ?_
                  refine bar_read 4 (ckV o N rt) rfl (by kernel_rfl) (by kernel_rfl) (by kernel_rfl) (by kernel_rfl) (by kernel_rfl) (fun _ _ _ h => h) (by rfl) (fun w7 h7 => run_ldA w7 rfl cg 0 rfl (ckC o N rt) Tryz.underlying32 rfl HS10.out h7.fc) HA37D.out ?_
                  refine bar_norm (by go_simp; all_goals exact rfl) ?_
                  refine bar1 5 (by kernel_rfl) ?_
                  refine op_callf rfl (by rfl) 53 [.tmp 162, .tmp 163] _ rfl body_puts [.pointer (some ⟨b, 0, none⟩), ckV o N rt] rfl (R := fun v w' => v = evS se r'.2 ∧ StAt w' b mb tv r'.1 ∧ Upd (two b mb) W10.drew w') (by
                    have C := puts_any (HE10.out.ext ((Upd.refl none' W10).drew)) (HCL10.out.st.ext ((Upd.refl none' W10).drew)) HBM.out.1 HBM.out.2.1 o N rt HR32.out HOO.out.1 HOO.out.2.1 (by have h1 := HNN.out; have h2 := HM.out; omega) (by have h1 := HGR9.out.1; have h2 := HAL.out; have h3 := HOO.out.2.2.1; rw [← HRR.out] at h1; have h6 : (x, (none : EV)).1.nw = x.nw := rfl; omega) (by have h1 := HGR9.out.2; have h2 := HAL.out; have h3 := HOO.out.2.2.2; rw [← HRR.out] at h1; have h6 : (x, (none : EV)).1.texts = x.texts := rfl; rw [h6] at h1; omega)
                    rw [← HRP.out] at C
                    refine C.mono ?_
                    rintro e w' ⟨rfl, h1, h2⟩
                    exact ⟨_, rfl, rfl, h1, h2⟩) ?_
                  rintro v w12 ⟨rfl, hst, hu12⟩
                  have HU12 : Hid (Upd (two b mb) W10 w12) := Lib.hid (((Upd.refl none' W10).drew.mono (fun _ _ h => h.elim)).trans hu12)
                  have HST := Lib.hid hst
                  have HQ12 : Hid (w12.heap[q]? = some (.cells #[evS se R.2] 38 (0, 0))) := Lib.hid (HU12.out.blk HCL10.out.ok (fun e => by have h1 := HLT.out; have h2 := HLO.out.q; rcases e with e | e <;> omega))
                  have HA12 : Hid (A37 w.heap.size wb b cg (ckC o N rt) w12) := Lib.hid (HA37.out.upd HU12.out (fun e => by have h1 := HLT.out; rcases e with e | e <;> omega) (fun e => by
                    rcases e with e | e
                    · exact HBN.out.1 (show b = wb from e.symm)
                    · exact HBN.out.2.1 (show mb = wb from e.symm)) (fun e => by rcases e with e | e; exact HNE3.out.1 e; exact HNE3.out.2.1 e))
                  clear hst hu12
                  refine ⟨fun _ => HA12.out, ?_⟩
                  refine bar_norm (by go_simp; all_goals exact rfl) ?_
                  refine bar1 6 (by kernel_rfl) ?_
                  refine op_store1 rfl (by rfl) 38 _ _ rfl ⟨q, 0, none⟩ rfl (evS se r'.2) rfl (evS_cells se r'.2).1 (evS_cells se r'.2).2 size_err _ (cell_of_blk HQ12.out 0) (free_of_blk HQ12.out 0) ?_
                  refine ⟨fun e => by simp [openB] at e, ?_⟩
                  refine bar_norm (by go_simp; all_goals exact rfl) ?_
                  refine bar_done (by kernel_rfl) ?_ _
                  have HUQ : Hid (Upd (one q) w12 (w12.setCell ⟨q, 0, none⟩ (evS se r'.2))) := Lib.hid ((Upd.refl (one q) w12).setCell (p := ⟨q, 0, none⟩) (.inr rfl) _)
                  have HU3 : Hid (Upd (three b mb q) W10 (w12.setCell ⟨q, 0, none⟩ (evS se r'.2))) := Lib.hid ((HU12.out.mono (fun g _ hg => by rcases hg with e | e; exact .inl e; exact .inr (.inl e))).setCell (p := ⟨q, 0, none⟩) (.inr (.inr (.inr rfl))) _)
                  have HWF : Hid (WrAt (w12.setCell ⟨q, 0, none⟩ (evS se r'.2)) wb (.pointer (some ⟨b, 0, none⟩)) o n root (.slice eA ne ec) false) := Lib.hid (HCL10.out.wr.upd HU3.out (fun e => by
                    have h1 := HLT.out.1
                    have h2 := HLO.out.q
                    rcases e with e | e | e
                    · exact HBN.out.1 (show b = wb from e.symm)
                    · exact HBN.out.2.1 (show mb = wb from e.symm)
                    · omega))
                  have HUF : Hid (Upd (three b mb wb) w (w12.setCell ⟨q, 0, none⟩ (evS se r'.2))) := Lib.hid ((HU10.out.trans (HU12.out.mono (fun g _ hg => by rcases hg with e | e; exact .inl e; exact .inr (.inl e)))).setCell (p := ⟨q, 0, none⟩) (.inl (by have h2 := HLO.out.q; show w.heap.size ≤ q; omega)) _)
                  have HSF : Hid (StAt (w12.setCell ⟨q, 0, none⟩ (evS se r'.2)) b mb tv (appR x o n es ls).1) := Lib.hid (by
                    rw [HAR.out]
                    exact HST.out.upd HUQ.out (fun e => by have h1 := HLT.out.2.1; have h2 := HLO.out.q; have h3 : b = q := e; omega) (fun e => by have h1 := HLT.out.2.2.1; have h2 := HLO.out.q; have h3 : mb = q := e; omega) (fun g hg e => by have h1 := HLT.out.2.2.2 g hg; have h2 := HLO.out.q; have h3 : g = q := e; omega))
                  have HZF : Hid ((w12.setCell ⟨q, 0, none⟩ (evS se r'.2)).heap[w.heap.size + 1]? = some (.cells zckA 32 (0, 0))) := Lib.hid (HU3.out.blk HZ10.out (fun e => by
                    have h1 := HLT.out
                    have h2 := HLO.out.q
                    rcases e with e | e | e <;> omega))
                  have HGF : Hid (EgAt B (w12.setCell ⟨q, 0, none⟩ (evS se r'.2)) (.slice eA ne ec) es vs) := Lib.hid (HG10.out.upd HU3.out (fun g hg hs => by
                    rcases hs with e | e | e
                    · exact ⟨_, (congrArg (fun k => W10.heap[k]?) e).trans HCL10.out.st.blk, not_eg (by decide) (by decide)⟩
                    · rw [e]; exact HCL10.out.st.mb_eg
                    · exact ⟨_, (congrArg (fun k => W10.heap[k]?) e).trans HCL10.out.ok, not_eg (by decide) (by decide)⟩))
                  have HEF := Lib.hid (HE10.out.upd HU3.out (fun k hk => by
                    have h1 := HBM.out
                    have h2 := HLO.out.q
                    have h3 := HLT.out.2.1
                    rcases hk with e | e | e <;> omega))
                  have HQ13 := Lib.hid (blk_set HQ12.out 0 (evS se r'.2))
                  have HGRF := Lib.hid ((HT.out.gr.ext HX10.out).frame HU3.out (frame_q HLO.out HCL10.out.ok errT))
                  have HAF : Hid (A37 w.heap.size wb b cg (ckC o N rt) (w12.setCell ⟨q, 0, none⟩ (evS se r'.2))) := Lib.hid (HA37.out.upd HU3.out (fun e => by have h1 := HLT.out; have h2 := HLO.out.q; rcases e with e | e | e <;> omega) (fun e => by
                    have h1 := HLT.out.1
                    have h2 := HLO.out.q
                    rcases e with e | e | e
                    · exact HBN.out.1 (show b = wb from e.symm)
                    · exact HBN.out.2.1 (show mb = wb from e.symm)
                    · omega) (fun e => by rcases e with e | e | e; exact HNE3.out.1 e; exact HNE3.out.2.1 e; exact HNE3.out.2.2.1 e))
                  have c12 : (w12.setCell ⟨q, 0, none⟩ (evS se r'.2)).cell? ⟨q, 0, none⟩ = some (evS se r'.2) := by
                    rw [cell_of_blk HQ13.out]
                    rfl
                  have c2b : (w12.setCell ⟨q, 0, none⟩ (evS se r'.2)).cell? ⟨w.heap.size, 0, none⟩ = some (.pointer (some ⟨wb, 0, none⟩)) := HAF.out.fb
                  clear c11
                  generalize w12.setCell ⟨q, 0, none⟩ (evS se r'.2) = W12 at *
                  cases hr3 : r'.2 with
                  | some er =>
                    have HA2 : Hid (∃ er, (appR x o n es ls).2 = some er) := Lib.hid ⟨_, by rw [HAR.out]; exact hr3⟩
                    obtain ⟨k, p⟩ := er
                    rw [hr3] at c12
                    replace c12 : W12.cell? ⟨q, 0, none⟩ = some (sv se k) := c12
                    clear hr3
                    have e37 : W12.cell? ⟨wb, 37, none⟩ = some (.bool false) := HWF.out.c37 HR.out
                    have ef := free_of_blk HWF.out.blk 37
                    have HWE := Lib.hid (HWF.out.ends HR.out)
                    have HXE : Hid (Upd (three b mb wb) w (W12.setCell ⟨wb, 37, none⟩ (.bool true))) := Lib.hid (HUF.out.setCell (p := ⟨wb, 37, none⟩) (.inr (.inr (.inr rfl))) _)
                    have HSE : Hid (StAt (W12.setCell ⟨wb, 37, none⟩ (.bool true)) b mb tv (appR x o n es ls).1) := Lib.hid (HSF.out.upd ((Upd.refl (one wb) W12).setCell (p := ⟨wb, 37, none⟩) (.inr rfl) (.bool true)) HBN.out.1 HBN.out.2.1 HBN.out.2.2)
                    have HZE : Hid ((W12.setCell ⟨wb, 37, none⟩ (.bool true)).heap[w.heap.size + 1]? = some (.cells zckA 32 (0, 0))) := Lib.hid ((((Upd.refl (one wb) W12).setCell (p := ⟨wb, 37, none⟩) (.inr rfl) (.bool true))).blk HZF.out (fun e => by have h1 := HLT.out.1; have h2 : w.heap.size + 1 = wb := e; omega))
                    have HEGE : Hid (EgAt B (W12.setCell ⟨wb, 37, none⟩ (.bool true)) (.slice eA ne ec) es vs) := Lib.hid (HGF.out.one ((Upd.refl (one wb) W12).setCell (p := ⟨wb, 37, none⟩) (.inr rfl) (.bool true)) HWF.out.blk (by decide) (by decide))
                    have HEE := Lib.hid (HEF.out.upd ((Upd.refl (one wb) W12).setCell (p := ⟨wb, 37, none⟩) (.inr rfl) (.bool true)) (fun k hk => by rw [show k = wb from hk]; exact HBM.out.2.2))
                    have HG8' : Hid ((W12.setCell ⟨wb, 37, none⟩ (.bool true)).cell? ⟨1, 0, none⟩ = some (sv se 8)) := Lib.hid (HEE.out.g.cell 8 (by omega) (by omega))
                    go_wp2_with fail
                    clear e37 ef
                    generalize W12.setCell ⟨wb, 37, none⟩ (.bool true) = W11 at *
                    have HZD := Lib.hid (((Upd.refl none' W11).drew).blk HZE.out id)
                    have HGD : Hid (W11.drew.cell? ⟨1, 0, none⟩ = some (sv se 8)) := Lib.hid (show W11.cell? _ = _ from HG8'.out)
                    have HU13 : Hid (Upd (one (w.heap.size + 1)) W11 (W11.drew.setRow (w.heap.size + 1) (ckC [] 0 z32B).toArray)) := Lib.hid (((Upd.refl (one (w.heap.size + 1)) W11).drew).setRow (.inr rfl) _)
                    have HGD2 : Hid ((W11.drew.setRow (w.heap.size + 1) (ckC [] 0 z32B).toArray).cell? ⟨1, 0, none⟩ = some (sv se 8)) := Lib.hid (by
                      rw [Upd.cell HU13.out (lt_of_cell HG8'.out) (fun e => ?_)]
                      · exact HG8'.out
                      · have e2 : 1 = w.heap.size + 1 := e
                        have h2 := ((HEF.out.g).low 8 (by omega) (by omega)).2
                        have h3 := HBM.out.1
                        have h4 := HLT.out.2.1
                        omega)
                    have HFIN : Hid (StAt (W11.drew.setRow (w.heap.size + 1) (ckC [] 0 z32B).toArray) b mb tv (appR x o n es ls).1 ∧ Upd (three b mb wb) w (W11.drew.setRow (w.heap.size + 1) (ckC [] 0 z32B).toArray) ∧ WrAt (W11.drew.setRow (w.heap.size + 1) (ckC [] 0 z32B).toArray) wb (.pointer (some ⟨b, 0, none⟩)) o n root (.slice eA ne ec) true ∧ EgAt B (W11.drew.setRow (w.heap.size + 1) (ckC [] 0 z32B).toArray) (.slice eA ne ec) es vs) := Lib.hid
                      ⟨HSE.out.upd HU13.out (fun e => by have h1 := HLT.out.2.1; have h2 : b = w.heap.size + 1 := e; omega) (fun e => by have h1 := HLT.out.2.2.1; have h2 : mb = w.heap.size + 1 := e; omega) (fun g hg e => by have h1 := HLT.out.2.2.2 g hg; have h2 : g = w.heap.size + 1 := e; omega),
                       (HXE.out.drew).setRow (.inl (by omega)) _,
                       HWE.out.upd HU13.out (fun e => by have h1 := HLT.out.1; have h2 : wb = w.heap.size + 1 := e; omega),
                       HEGE.out.one HU13.out HZE.out (by decide) (by decide)⟩
                    have HQF := Lib.hid (blk_setRow HZD.out (ckC [] 0 z32B).toArray)
                    have HOV : Hid (over zckA.toList 0 (ckC [] 0 z32B) = ckC [] 0 z32B) := Lib.hid (over_all _ _ (by rw [ck_len _ _ _ z32B_len]; rfl))
                    refine wp_region_any (by kernel_rfl) ?_
                    refine any_seqM (t := 0) 2 (W11.drew.setRow (w.heap.size + 1) (ckC [] 0 z32B).toArray) [0, 1, 2, 3] [_, _, _, _] (by kernel_rfl) rfl (by kernel_rfl) (by kernel_rfl) (by kernel_rfl) (by kernel_rfl) ?_
                    simp only [List.getElem_toArray, List.getElem_cons_succ, List.getElem_cons_zero]
                    refine m_read (v := .agg (ckC [] 0 z32B).toArray) rfl (by decide) (exec_build _ [] rfl [] _ rfl (run_zck _)) (exec_build _ [] rfl [] _ rfl (run_zck _)) ?_
                    refine m_norm (by go_simp; exact rfl) ?_
                    refine m_read (v := sv se 8) rfl (by decide) (run_ld1 _ rfl ⟨1, 0, none⟩ _ rfl Tryz.underlying38 rfl HGD.out) (run_ld1 _ rfl ⟨1, 0, none⟩ _ rfl Tryz.underlying38 rfl HGD2.out) ?_
                    refine m_norm (by go_simp; exact rfl) ?_
                    refine m_store rfl ((run_storeAggAt 32 _ _ rfl (w.heap.size + 1) 0 rfl (ckC [] 0 z32B) rfl ckz_size zckA.toList 32 HZD.out (by rw [ck_len _ _ _ z32B_len]; exact Nat.le_refl _) (ck_one _ _ _)).trans (by rw [HOV.out])) ?_
                    refine m_norm (by go_simp; exact rfl) ?_
                    refine m_read (v := sv se 8) rfl (by decide) (by go_simp) (by go_simp) ?_
                    refine m_norm (by go_simp; exact rfl) ?_
                    refine m_nil ?_
                    refine wpAny_done (by kernel_rfl) ?_ _
                    go_wp2_with fail
                    have hsz : (Tryz.prog.info? 32).map (·.size) = some (ckC [] 0 z32B).toArray.size := ckz_size
                    refine bodyPost_ret (v := .tuple #[.agg (ckC [] 0 z32B).toArray, sv se 8]) (results_cell_twoV rfl _ _ (w.heap.size + 1) 32 _ (0, 0) _ (sv se 8) rfl rfl HQF.out Tryz.underlying32 rfl hsz) rfl ⟨HFIN.out.1, HFIN.out.2.1, ?_⟩
                    obtain ⟨er, her⟩ := HA2.out
                    rw [her]
                    exact ⟨rfl, HFIN.out.2.2.1, HFIN.out.2.2.2⟩
                  | none =>
                    have HR3 := Lib.hid hr3
                    rw [hr3] at c12
                    replace c12 : W12.cell? ⟨q, 0, none⟩ = some .nilIface := c12
                    clear hr3
                    go_wp2_with fail
                    clear c12 c2b
                    obtain ⟨evA, evc, hev⟩ := own_sl HGRF.out.er
                    have HEV := Lib.hid hev
                    have HRB := Lib.hid HGRF.out.blk
                    have HBBD : Hid (V.bb = bb) := Lib.hid HDP.out.2.2.2
                    rw [hev] at HRB
                    have HGNE : Hid (gb ≠ wb) := Lib.hid (fun e => by have h1 := HLT.out.1; have h2 := HGRF.out.low; omega)
                    have HW0 := Lib.hid (HWF.out.ext ((Upd.refl none' W12).drew))
                    have HUR : Hid (Upd (one wb) W12 (W12.drew.setRow wb (over (wrC (.pointer (some ⟨b, 0, none⟩)) o n root (.slice eA ne ec) false) 1 (ckC o N rt)).toArray)) := Lib.hid (((Upd.refl (one wb) W12).drew).setRow (.inr rfl) _)
                    have HW1 := Lib.hid (HW0.out.setCk HR.out o N rt HR32.out)
                    have HAD : Hid (A37 w.heap.size wb b cg (ckC o N rt) W12.drew) := Lib.hid ⟨HAF.out.fb, HAF.out.fs, HAF.out.fc⟩
                    have HBX0 : Hid (W12.drew.cell? ⟨w.heap.size, 0, none⟩ = some (.pointer (some ⟨wb, 0, none⟩))) := Lib.hid HAF.out.fb
                    have HLW := Lib.hid HLT.out.1
                    have HBX1 : Hid ((W12.drew.setRow wb (over (wrC (.pointer (some ⟨b, 0, none⟩)) o n root (.slice eA ne ec) false) 1 (ckC o N rt)).toArray).cell? ⟨w.heap.size, 0, none⟩ = some (.pointer (some ⟨wb, 0, none⟩))) := Lib.hid ((HUR.out.cell (lt_of_cell HAF.out.fb) (fun e => by have h1 := HLW.out; have h2 : w.heap.size = wb := e; omega)).trans HAF.out.fb)
                    have HCK1 : Hid (∀ j v, (ckC o N rt)[j]? = some v → (W12.drew.setRow wb (over (wrC (.pointer (some ⟨b, 0, none⟩)) o n root (.slice eA ne ec) false) 1 (ckC o N rt)).toArray).cell? ⟨cg, 0 + j, none⟩ = some v) := Lib.hid (fun j v hv => (HUR.out.cell (lt_of_cell (HAF.out.fc j v hv)) (fun e => HNE3.out.2.2.2 e)).trans (HAF.out.fc j v hv))
                    have HGB1 : Hid ((W12.drew.setRow wb (over (wrC (.pointer (some ⟨b, 0, none⟩)) o n root (.slice eA ne ec) false) 1 (ckC o N rt)).toArray).cell? ⟨gb, 1, none⟩ = some (.slice evA D.es.length evc)) := Lib.hid ((cell_of_blk (HUR.out.blk HRB.out (fun e => HGNE.out e)) 1))
                    have HGB0 : Hid (W12.drew.cell? ⟨gb, 1, none⟩ = some (.slice evA D.es.length evc)) := Lib.hid (cell_of_blk HRB.out 1)
                    refine wp_region_any (by kernel_rfl) ?_
                    refine any_seqM (t := 3) 9 (W12.drew.setRow wb (over (wrC (.pointer (some ⟨b, 0, none⟩)) o n root (.slice eA ne ec) false) 1 (ckC o N rt)).toArray) [0, 1, 2, 3, 4, 5, 6, 7, 8, 9] [_, _, _, _, _, _, _, _, _, _] (by kernel_rfl) rfl (by kernel_rfl) (by kernel_rfl) (by kernel_rfl) (by kernel_rfl) ?_
                    simp only [List.getElem_toArray, List.getElem_cons_succ, List.getElem_cons_zero]
                    refine m_read (v := .pointer (some ⟨wb, 0, none⟩)) rfl (by decide) (run_ld1 _ rfl ⟨w.heap.size, 0, none⟩ _ rfl Tryz.underlying26 rfl HBX0.out) (run_ld1 _ rfl ⟨w.heap.size, 0, none⟩ _ rfl Tryz.underlying26 rfl HBX1.out) ?_
                    refine m_norm (by go_simp; exact rfl) ?_
                    refine m_read (v := .pointer (some ⟨wb, 0, none⟩)) rfl (by decide) (run_ld1 _ rfl ⟨w.heap.size, 0, none⟩ _ rfl Tryz.underlying26 rfl HBX0.out) (run_ld1 _ rfl ⟨w.heap.size, 0, none⟩ _ rfl Tryz.underlying26 rfl HBX1.out) ?_
                    refine m_norm (by go_simp; exact rfl) ?_
                    refine m_read (v := ckV o N rt) rfl (by decide) (run_ldA _ rfl cg 0 rfl (ckC o N rt) Tryz.underlying32 rfl HS10.out HAD.out.fc) (run_ldA _ rfl cg 0 rfl (ckC o N rt) Tryz.underlying32 rfl HS10.out HCK1.out) ?_
                    refine m_norm (by go_simp; exact rfl) ?_
                    refine m_read (v := .pointer (some ⟨gb, 0, none⟩)) rfl (by decide) (by go_simp) (by go_simp) ?_
                    refine m_norm (by go_simp; exact rfl) ?_
                    refine m_read (v := .pointer (some ⟨gb, 0, none⟩)) rfl (by decide) (by go_simp) (by go_simp) ?_
                    refine m_norm (by go_simp; exact rfl) ?_
                    refine m_read (v := .pointer (some ⟨gb, 1, none⟩)) rfl (by decide) (by go_simp) (by go_simp) ?_
                    refine m_norm (by go_simp; exact rfl) ?_
                    refine m_read (v := .slice evA D.es.length evc) rfl (by decide) (run_ld1 _ rfl ⟨gb, 1, none⟩ _ rfl Tryz.underlying33 rfl HGB0.out) (run_ld1 _ rfl ⟨gb, 1, none⟩ _ rfl Tryz.underlying33 rfl HGB1.out) ?_
                    refine m_norm (by go_simp; exact rfl) ?_
                    refine m_read (v := .pointer (some ⟨wb, 0, none⟩)) rfl (by decide) (by go_simp) (by go_simp) ?_
                    refine m_norm (by go_simp; exact rfl) ?_
                    refine m_read (v := .pointer (some ⟨wb, 1, none⟩)) rfl (by decide) (by go_simp) (by go_simp) ?_
                    refine m_norm (by go_simp; exact rfl) ?_
                    refine m_store rfl (run_storeAggAt 32 _ _ rfl wb 1 rfl (ckC o N rt) rfl HS10.out (wrC (.pointer (some ⟨b, 0, none⟩)) o n root (.slice eA ne ec) false) 35 HW0.out.blk (by rw [ck_len o N rt HR32.out, wr_len _ _ _ _ _ _ HR.out]; omega) (ck_one o N rt)) ?_
                    refine m_norm (by go_simp; exact rfl) ?_
                    refine m_nil ?_
                    have HGR13 := Lib.hid (HGRF.out.frame HUR.out (fun g h1 _ h3 => absurd (show g = wb from h3) (by have h4 := HLW.out; omega)))
                    have HA13 := Lib.hid HCK1.out
                    have HU13 : Hid (Upd (three b mb wb) w (W12.drew.setRow wb (over (wrC (.pointer (some ⟨b, 0, none⟩)) o n root (.slice eA ne ec) false) 1 (ckC o N rt)).toArray)) := Lib.hid (HUF.out.trans (HUR.out.mono (fun g _ hg => .inr (.inr hg))))
                    have HS13 := Lib.hid (HSF.out.upd HUR.out HBN.out.1 HBN.out.2.1 HBN.out.2.2)
                    have HZ13 := Lib.hid (HUR.out.blk HZF.out (fun e => by have h1 := HLW.out; have h2 : w.heap.size + 1 = wb := e; omega))
                    generalize W12.drew.setRow wb (over (wrC (.pointer (some ⟨b, 0, none⟩)) o n root (.slice eA ne ec) false) 1 (ckC o N rt)).toArray = W13 at *
                    refine any1 10 (by kernel_rfl) ?_
                    refine op_val (v := .pointer (some ⟨wb, 0, none⟩)) (w' := W13) rfl (by rfl) (by go_simp) ?_
                    refine any_normQ (by go_simp; all_goals exact rfl) ?_
                    refine any1 11 (by kernel_rfl) ?_
                    refine op_val (v := .pointer (some ⟨wb, 36, none⟩)) (w' := W13) rfl (by rfl) (by go_simp) ?_
                    refine any_normQ (by go_simp; all_goals exact rfl) ?_
                    refine any1 12 (by kernel_rfl) ?_
                    refine op_store1 rfl (by rfl) 33 _ _ rfl ⟨wb, 36, none⟩ rfl (.slice evA D.es.length evc) rfl rfl rfl size_edges _ (HW1.out.c36 HR32.out) (free_of_blk HW1.out.blk 36) ?_
                    refine any_normQ (by go_simp; all_goals exact rfl) ?_
                    refine wpAny_done (by kernel_rfl) ?_ _
                    have HUE : Hid (Upd (one wb) W13 (W13.setCell ⟨wb, 36, none⟩ (.slice evA D.es.length evc))) := Lib.hid ((Upd.refl (one wb) W13).setCell (p := ⟨wb, 36, none⟩) (.inr rfl) _)
                    have HW14 := Lib.hid (HW1.out.setEv HR32.out (.slice evA D.es.length evc))
                    have HEG14 : Hid (EgAt B (W13.setCell ⟨wb, 36, none⟩ (.slice evA D.es.length evc)) (.slice evA D.es.length evc) D.es V.vs) := Lib.hid (by
                      have h := ((HGR13.out.eg (B := B) (by have h1 := HBM.out.1; have h2 := HLT.out.2.1; omega)).one HUE.out HW1.out.blk (by decide) (by decide))
                      rw [HEV.out] at h
                      exact h)
                    have HU14 := Lib.hid (HU13.out.trans (HUE.out.mono (fun g _ hg => .inr (.inr hg))))
                    have HS14 := Lib.hid (HS13.out.upd HUE.out HBN.out.1 HBN.out.2.1 HBN.out.2.2)
                    have HZ14 := Lib.hid (HUE.out.blk HZ13.out (fun e => by have h1 := HLW.out; have h2 : w.heap.size + 1 = wb := e; omega))
                    have HCK14 : Hid (∀ j v, (ckC o N rt)[j]? = some v → (W13.setCell ⟨wb, 36, none⟩ (.slice evA D.es.length evc)).cell? ⟨cg, 0 + j, none⟩ = some v) := Lib.hid (fun j v hv => (HUE.out.cell (lt_of_cell (HA13.out j v hv)) (fun e => HNE3.out.2.2.2 e)).trans (HA13.out j v hv))
                    generalize W13.setCell ⟨wb, 36, none⟩ (.slice evA D.es.length evc) = W14 at *
                    have HOV : Hid (over zckA.toList 0 (ckC o N rt) = ckC o N rt) := Lib.hid (over_all _ _ (by rw [ck_len _ _ _ HR32.out]; rfl))
                    go_wp2_with (first
                      | refine wpList_loadAgg rfl 32 _ rfl cg 0 rfl (ckC o N rt) Tryz.underlying32 rfl HS10.out HCK14.out ?_
                      | refine wpList_storeAgg rfl 32 _ _ rfl (w.heap.size + 1) 0 rfl (ckC o N rt) rfl HS10.out zckA.toList 32 HZ14.out (by rw [ck_len _ _ _ HR32.out]; exact Nat.le_refl _) (ck_one _ _ _) ?_)
                    rw [show over _ 0 (ckC o N rt) = ckC o N rt from HOV.out]
                    have HUZ : Hid (Upd (one (w.heap.size + 1)) W14 (W14.setRow (w.heap.size + 1) (ckC o N rt).toArray)) := Lib.hid ((Upd.refl (one (w.heap.size + 1)) W14).setRow (.inr rfl) _)
                    have HQF := Lib.hid (blk_setRow HZ14.out (ckC o N rt).toArray)
                    have hsz : (Tryz.prog.info? 32).map (·.size) = some (ckC o N rt).toArray.size := HS10.out
                    refine bodyPost_ret (v := .tuple #[ckV o N rt, .nilIface]) (results_cell_twoV rfl _ _ (w.heap.size + 1) 32 _ (0, 0) _ .nilIface rfl rfl HQF.out Tryz.underlying32 rfl hsz) rfl ⟨?_, HU14.out.setRow (.inl (by omega)) _, ?_⟩
                    · exact HS14.out.upd HUZ.out (fun e => by have h1 := HLT.out.2.1; have h2 : b = w.heap.size + 1 := e; omega) (fun e => by have h1 := HLT.out.2.2.1; have h2 : mb = w.heap.size + 1 := e; omega) (fun g hg e => by have h1 := HLT.out.2.2.2 g hg; have h2 : g = w.heap.size + 1 := e; omega)
                    · rw [HAR.out, HR3.out]
                      refine ⟨.slice evA D.es.length evc, V.vs, ?_, ?_, ?_⟩
                      · rw [← HM.out.1, ← HNN.out, ← HRT.out]
                      · rw [← HM.out.1, ← HNN.out, ← HRT.out]
                        exact HW14.out.upd HUZ.out (fun e => by have h1 := HLW.out; have h2 : wb = w.heap.size + 1 := e; omega)
                      · rw [← HDE.out]
                        exact HEG14.out.one HUZ.out HZ14.out (by decide) (by decide)
              refine ⟨ty_load13 ⟨w.heap.size, 0, none⟩ _ (gd_none3 rfl) rfl rfl (kn_old3 2 rfl rfl) Tryz.underlying26 rfl (fun w7 hX => Ext.cellv hX (cell_of_blk HR9.out.box 0)), ?_⟩
              refine ⟨ty_val3 (gd_none3 rfl) rfl (fun a w7 hX hH hN => ?_), ?_⟩
              · have h1 := (kn_new3 0 rfl rfl rfl rfl : Kn3 _ _ _ _ (.tmp 147) (.pointer (some ⟨wb, 0, none⟩))) a w7 hH hN
                simp only [execOp, h1]
                rfl
              refine ⟨ty_fieldAddr3 _ _ (gd_none3 rfl) rfl rfl (kn_new3 1 rfl rfl rfl rfl) (fun w1 => by kernel_rfl), ?_⟩
              refine ⟨ty_fieldAddr3 _ _ (gd_none3 rfl) rfl rfl (kn_new3 2 rfl rfl rfl rfl) (fun w1 => by kernel_rfl), ?_⟩
              refine ⟨ty_load13 ⟨wb, 1, none⟩ _ (gd_none3 rfl) rfl rfl (kn_new3 3 rfl rfl rfl rfl) Tryz.underlying9 rfl (fun w7 hX => Ext.cellv hX HR9.out.wr.c1), ?_⟩
              refine ⟨ty_move3 (gd_none3 rfl) rfl rfl (kn_old3 6 rfl rfl), ?_⟩
              refine ⟨ty_call13 51 _ _ _ (gd_none3 rfl) rfl body_bsize (kn_new3 5 rfl rfl rfl rfl) (fun w7 hX => known_call3 rfl (by
                have h := (HT.out.gr.ext hX).bld
                rw [HDP.out.2.2.2, HDP.out.2.1] at h
                rw [HNN.out]
                refine (size_any h).mono ?_
                rintro e w' ⟨rfl, rfl⟩
                exact ⟨rfl, Upd.refl _ _⟩)), ?_⟩
              refine ⟨ty_move3 (gd_none3 rfl) rfl rfl (kn_old3 6 rfl rfl), ?_⟩
              refine ⟨ty_call13 52 _ _ _ (gd_none3 rfl) rfl body_broot (kn_new3 7 rfl rfl rfl rfl) (fun w7 hX => known_call3 rfl (by
                have h := (HT.out.gr.ext hX).bld
                rw [HDP.out.2.2.2] at h
                have C := root_any h HG32.out.1 HG32.out.2.2 (HEB.out.ext hX).sgw (HEB.out.ext hX).sh
                rw [HFD.out] at C
                exact C)), ?_⟩
              refine ⟨ty_val3 (gd_none3 rfl) rfl (fun a w7 hX hH hN => ?_), ?_⟩
              · have h1 := (kn_new3 4 rfl rfl rfl rfl : Kn3 _ _ _ _ (.tmp 151) (.string (str o))) a w7 hH hN
                have h2 := (kn_new3 6 rfl rfl rfl rfl : Kn3 _ _ _ _ (.tmp 153) (.int .u64 N)) a w7 hH hN
                have h3 := (kn_new3 8 rfl rfl rfl rfl : Kn3 _ _ _ _ (.tmp 155) (hashV rt)) a w7 hH hN
                exact exec_build w7 [(0, .tmp 151), (1, .tmp 153), (2, .tmp 155)] rfl [(0, .string (str o)), (1, .int .u64 N), (2, hashV rt)] _ (by simp only [List.map_cons, List.map_nil, h1, h2, h3]) (run_ckN w7 o N rt HR32.out)
              refine ⟨ty_alloc3 (gd_none3 rfl) 32 rfl (.agg zckA) zck_zero _ rfl (fun w7 hX => ⟨_, hX.size, rfl, blk_alloc _ _⟩), ?_⟩
              exact trivial
  --END

set_option maxRecDepth 20000 in
set_option maxHeartbeats 8000000 in
theorem append_empty {B wb b : Nat} {se : Nat → Addr} {w : World} {o : List UInt8} {n : Nat} {root : HB} {ev : Value} (E : Env B se w) (HW : WrAt w wb (.pointer (some ⟨b, 0, none⟩)) o n root ev false) (hr : root.length = 32) (hn : n ≤ 1048576) (A : Option Addr) (c : Nat) (hA : A = none ∨ ∃ g o, A = some ⟨g, o, none⟩) : Calls Tryz.prog 11 #[.pointer (some ⟨wb, 0, none⟩), .slice A 0 c] w fun e w' => e = .returned (.tuple #[ckV o n root, .nilIface]) ∧ Ext w w' := by
  have X1 := ((Upd.refl none' w).alloc (.cells #[.pointer (some ⟨wb, 0, none⟩)] 26)).alloc (.cells zckA 32)
  have HA0 := Lib.hid (blk_alloc_lt (blk_alloc w (.cells #[.pointer (some ⟨wb, 0, none⟩)] 26)) (.cells zckA 32))
  have HZ0 : Hid (((w.alloc (.cells #[.pointer (some ⟨wb, 0, none⟩)] 26)).alloc (.cells zckA 32)).heap[w.heap.size + 1]? = some (.cells zckA 32 (0, 0))) := Lib.hid (by
    have := blk_alloc (w.alloc (.cells #[.pointer (some ⟨wb, 0, none⟩)] 26)) (.cells zckA 32)
    rwa [World.size_alloc] at this)
  have HX1 := Lib.hid X1
  have HE1 := Lib.hid (E.ext X1)
  have HBW := Lib.hid E.g.size
  have k0 : ((w.alloc (.cells #[.pointer (some ⟨wb, 0, none⟩)] 26)).alloc (.cells zckA 32)).cell? ⟨w.heap.size, 0, none⟩ = some (.pointer (some ⟨wb, 0, none⟩)) := cell_of_blk HA0.out 0
  have k1 := (HW.ext X1).c0
  have k2 := (HW.ext X1).c37 hr
  have CL := long_any (HW.ext X1) hn A [] c (fun j v hv => by simp at hv) hA (by simp)
  rw [show (decide (4096 < ([] : List (List UInt8)).length) || decide (1048576 < n + ([] : List (List UInt8)).length) || ([] : List (List UInt8)).any longS) = false by simp; omega] at CL
  have HCK := Lib.hid (HW.ext X1).ck
  have HS := Lib.hid (ck_size o n root hr)
  have HOV : Hid (over zckA.toList 0 (ckC o n root) = ckC o n root) := Lib.hid (over_all _ _ (by rw [ck_len _ _ _ hr]; rfl))
  have HLN := Lib.hid (ck_len o n root hr)
  clear E X1 HW hn hA hr
  go_enter Tryz.func11, Tryz.ntmps11
  go_wp2_with fail
  refine CL.mono ?_
  rintro e w1 ⟨rfl, hw1⟩
  clear CL
  generalize hW : (w.alloc (.cells #[.pointer (some ⟨wb, 0, none⟩)] 26)).alloc (.cells zckA 32) = W1 at *
  subst hw1
  clear hW
  go_wp2_with (first
    | refine wpList_loadAgg rfl 32 _ rfl wb 1 rfl (ckC o n root) Tryz.underlying32 rfl HS.out HCK.out ?_
    | refine wpList_storeAgg rfl 32 _ _ rfl (w.heap.size + 1) 0 rfl (ckC o n root) rfl HS.out zckA.toList 32 HZ0.out (by rw [HLN.out]; exact Nat.le_refl _) (ck_one _ _ _) ?_)
  rw [show over _ 0 (ckC o n root) = ckC o n root from HOV.out]
  have HQF := Lib.hid (blk_setRow HZ0.out (ckC o n root).toArray)
  have hsz : (Tryz.prog.info? 32).map (·.size) = some (ckC o n root).toArray.size := HS.out
  exact bodyPost_ret (v := .tuple #[ckV o n root, .nilIface]) (results_cell_twoV rfl _ _ (w.heap.size + 1) 32 _ (0, 0) _ .nilIface rfl rfl HQF.out Tryz.underlying32 rfl hsz) rfl ⟨rfl, HX1.out.setRow (.inl (by omega)) _⟩
end Go.Proofs.YtnkcfkjeeennmaaGreatDoor
