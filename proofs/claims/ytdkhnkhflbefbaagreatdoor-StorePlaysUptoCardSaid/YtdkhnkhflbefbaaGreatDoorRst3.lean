/- The document's store by contracts: Restart, Counts, Dead, keep, Put. The document's store by contracts: Put, Get. PRINTED by wip/tools/gen_rst4.py. The document's store by contracts: Get. PRINTED by wip/tools/gen_rst5.py. -/
import Derived.Test.YtdkhnkhflbefbaaGreatDoorRst
namespace Go.Proofs.YtdkhnkhflbefbaaGreatDoor
open Go.RowKit Go.Lib


theorem rcounts_any {B b : Nat} {av tv : Value} {x : StD} {w : World} (H : RStAt B w b av tv x) :
    Calls Tryz.prog 35 #[.pointer (some ⟨b, 0, none⟩)] w fun e w' => e = .returned (.tuple #[.int .i64 x.nr, .int .i64 x.nw]) ∧ Ext w w' := by
  have c3 := cell_of_blk H.blk 3
  have c4 := cell_of_blk H.blk 4
  simp only [rstRow, List.size_toArray, List.getElem?_toArray, List.getElem?_cons_zero, List.getElem?_cons_succ] at c3 c4
  clear H
  go_enter Tryz.func35, Tryz.ntmps35
  go_wp2_with fail
  go_quiet (fail)
  go_wp2_with fail
  go_ret2
  exact ⟨rfl, (Upd.refl _ _).drewN _⟩
theorem rdead_any {B b : Nat} {av tv : Value} {x : StD} {w : World} (H : RStAt B w b av tv x) :
    Calls Tryz.prog 37 #[.pointer (some ⟨b, 0, none⟩)] w fun e w' => e = .returned (.bool x.dead) ∧ Ext w w' := by
  have c5 := cell_of_blk H.blk 5
  simp only [rstRow, List.size_toArray, List.getElem?_toArray, List.getElem?_cons_zero, List.getElem?_cons_succ] at c5
  clear H
  go_enter Tryz.func37, Tryz.ntmps37
  go_wp2_with fail
  go_ret
  exact ⟨rfl, Upd.refl _ _⟩
set_option maxRecDepth 20000 in
set_option maxHeartbeats 8000000 in
theorem rrestart_no {B b : Nat} {av tv : Value} {x : StD} {w : World} (H : RStAt B w b av tv x) (a : Option Addr) (zs : List Int) (cap : Nat) (c : Int) (h : RdsAt w a zs) (hz : zs.length ≤ 4398046511104) (hm : mayR zs = false) :
    Calls Tryz.prog 33 #[.pointer (some ⟨b, 0, none⟩), .agg #[.slice a zs.length cap, .int .i64 c]] w fun e w' => e = .returned (.agg #[.int .i64 2, .int .i64 (-1)]) ∧ Ext w w' := by
  have X := ((Upd.refl none' w).alloc (.cells #[.slice a zs.length cap, .int .i64 c] 24)).alloc (.cells #[.int .i64 0, .int .i64 0] 35)
  have hb := blk_alloc_lt (blk_alloc w (.cells #[.slice a zs.length cap, .int .i64 c] 24)) (.cells #[.int .i64 0, .int .i64 0] 35)
  have hf := blk_alloc (w.alloc (.cells #[.slice a zs.length cap, .int .i64 c] 24)) (.cells #[.int .i64 0, .int .i64 0] 35)
  rw [World.size_alloc] at hf
  have b0 : World.cell? _ ⟨w.heap.size, 0, none⟩ = some (.slice a zs.length cap) := cell_of_blk hb 0
  have b1 : World.cell? _ ⟨w.heap.size, 1, none⟩ = some (.int .i64 c) := cell_of_blk hb 1
  have C := rmay_any a zs cap c _ (h.ext X) (by omega)
  rw [hm] at C
  have HX := Lib.hid X
  have HF := Lib.hid hf
  clear X hb hf h hz hm H
  go_enter Tryz.func33, Tryz.ntmps33
  go_wp2_with fail
  refine C.mono ?_
  rintro e w1 ⟨rfl, u⟩
  have HX1 := Lib.hid (HX.out.trans u)
  have HF1 := Lib.hid (Ext.blk u HF.out)
  have CP := plainF 2 (by decide) w1
  clear u C b0 b1
  go_wp2_with fail
  refine CP.mono ?_
  rintro e w2 ⟨rfl, u⟩
  have HX2 := Lib.hid (HX1.out.trans u)
  have hf2 := Ext.blk u HF1.out
  have HF2 := Lib.hid hf2
  have f0 := free_of_blk hf2 0
  have f1 := free_of_blk hf2 1
  have k0 : w2.cell? ⟨w.heap.size + 1, 0, none⟩ = some (.int .i64 0) := cell_of_blk hf2 0
  have k1 : w2.cell? ⟨w.heap.size + 1, 1, none⟩ = some (.int .i64 0) := cell_of_blk hf2 1
  clear u CP hf2
  go_wp2_with fail
  have hq := blk_set (blk_set HF2.out 0 (.int .i64 2)) 1 (.int .i64 (-1))
  refine bodyPost_ret (v := .agg #[.int .i64 2, .int .i64 (-1)]) (results_cell_row rfl _ _ (w.heap.size + 1) 35 #[.int .i64 2, .int .i64 (-1)] (0, 0) _ rfl hq Tryz.underlying35 rfl size_fault) rfl ⟨rfl, HX2.out.then (upd_set2 _ (w.heap.size + 1) 0 1 _ _) (fun k hk e => by have : k = w.heap.size + 1 := e; omega)⟩
set_option maxRecDepth 20000 in
set_option maxHeartbeats 8000000 in
theorem rrestart_ok {B b : Nat} {av tv : Value} {x : StD} {w : World} (H : RStAt B w b av tv x) (hB : B ≤ w.heap.size) (a : Option Addr) (zs : List Int) (cap : Nat) (c : Int) (h : RdsAt w a zs) (hz : zs.length ≤ 4398046511104) (hm : mayR zs = true) :
    Calls Tryz.prog 33 #[.pointer (some ⟨b, 0, none⟩), .agg #[.slice a zs.length cap, .int .i64 c]] w fun e w' => e = .returned (.agg #[.int .i64 0, .int .i64 0]) ∧ ∃ tv', RStAt B w' b av tv' (x.take zs c) ∧ (∀ g, tv'.ownBlock = some g → w.heap.size ≤ g) ∧ Upd (one b) w w' := by
  have X := ((Upd.refl none' w).alloc (.cells #[.slice a zs.length cap, .int .i64 c] 24)).alloc (.cells #[.int .i64 0, .int .i64 0] 35)
  have hb := blk_alloc_lt (blk_alloc w (.cells #[.slice a zs.length cap, .int .i64 c] 24)) (.cells #[.int .i64 0, .int .i64 0] 35)
  have hf := blk_alloc (w.alloc (.cells #[.slice a zs.length cap, .int .i64 c] 24)) (.cells #[.int .i64 0, .int .i64 0] 35)
  rw [World.size_alloc] at hf
  have b0 : World.cell? _ ⟨w.heap.size, 0, none⟩ = some (.slice a zs.length cap) := cell_of_blk hb 0
  have b1 : World.cell? _ ⟨w.heap.size, 1, none⟩ = some (.int .i64 c) := cell_of_blk hb 1
  have C := rmay_any a zs cap c _ (h.ext X) (by omega)
  rw [hm] at C
  have HLT := Lib.hid (lt_of_blk H.blk)
  have HH := Lib.hid (H.ext X)
  have HX := Lib.hid X
  have HB := Lib.hid hb
  have HF := Lib.hid hf
  have HRD := Lib.hid (h.ext X)
  have HZ := Lib.hid hz
  have HBB := Lib.hid hB
  clear X hb hf h hz hm H hB
  go_enter Tryz.func33, Tryz.ntmps33
  go_wp2_with fail
  refine C.mono ?_
  rintro e w1 ⟨rfl, u⟩
  have HX1 := Lib.hid (HX.out.trans u)
  have HF1 := Lib.hid (Ext.blk u HF.out)
  have HH1 := Lib.hid (HH.out.ext u)
  have hb1 := Ext.blk u HB.out
  have b0 : w1.cell? ⟨w.heap.size, 0, none⟩ = some (.slice a zs.length cap) := cell_of_blk hb1 0
  have b1 : w1.cell? ⟨w.heap.size, 1, none⟩ = some (.int .i64 c) := cell_of_blk hb1 1
  have CT := rtwin_any a zs cap c w1 (HRD.out.ext u) HZ.out
  clear u C hb1
  go_wp2_with fail
  refine CT.mono ?_
  rintro e w2 ⟨v, rfl, hrow, u⟩
  obtain ⟨A, vc, rfl⟩ := own_sl hrow
  have HR := Lib.hid hrow
  have HX2 := Lib.hid (HX1.out.trans u)
  have HH2 := Lib.hid (HH1.out.ext u)
  have HF2 := Lib.hid (Ext.blk u HF1.out)
  have HB1 := Lib.hid HX1.out.size
  have hbb := HH2.out.blk
  have c1 := cell_of_blk hbb 1
  have c2 := cell_of_blk hbb 2
  have c3 := cell_of_blk hbb 3
  have c4 := cell_of_blk hbb 4
  have c5 := cell_of_blk hbb 5
  have f1 := free_of_blk hbb 1
  have f2 := free_of_blk hbb 2
  have f3 := free_of_blk hbb 3
  have f4 := free_of_blk hbb 4
  have f5 := free_of_blk hbb 5
  simp only [rstRow, List.size_toArray, List.getElem?_toArray, List.getElem?_cons_zero, List.getElem?_cons_succ] at c1 c2 c3 c4 c5
  have g0 := free_of_blk HF2.out 0
  have g1 := free_of_blk HF2.out 1
  have k0 : w2.cell? ⟨w.heap.size + 1, 0, none⟩ = some (.int .i64 0) := cell_of_blk HF2.out 0
  have k1 : w2.cell? ⟨w.heap.size + 1, 1, none⟩ = some (.int .i64 0) := cell_of_blk HF2.out 1
  have hne1 : w.heap.size + 1 ≠ b := by have := HLT.out; omega
  have HNE := Lib.hid hne1
  clear u CT b0 b1 hbb
  go_wp2_with fail
  have b5 := blk_set (blk_set (blk_set (blk_set (blk_set HH2.out.blk 1 (.slice A zs.length vc)) 2 (.int .i64 c)) 3 (.int .i64 0)) 4 (.int .i64 0)) 5 (.bool false)
  have hsb := blk_set_ne (blk_set_ne b5 (p := ⟨w.heap.size + 1, 0, none⟩) (fun e => HNE.out e.symm) (.int .i64 0)) (p := ⟨w.heap.size + 1, 1, none⟩) (fun e => HNE.out e.symm) (.int .i64 0)
  have hq := blk_set (blk_set (blk_set_ne (blk_set_ne (blk_set_ne (blk_set_ne (blk_set_ne HF2.out (p := ⟨b, 1, none⟩) HNE.out (.slice A zs.length vc)) (p := ⟨b, 2, none⟩) HNE.out (.int .i64 c)) (p := ⟨b, 3, none⟩) HNE.out (.int .i64 0)) (p := ⟨b, 4, none⟩) HNE.out (.int .i64 0)) (p := ⟨b, 5, none⟩) HNE.out (.bool false)) 0 (.int .i64 0)) 1 (.int .i64 0)
  have U5 : Upd (two b (w.heap.size + 1)) w2 _ := (((((((Upd.refl (two b (w.heap.size + 1)) w2).setCell (p := ⟨b, 1, none⟩) (.inr (.inl rfl)) (.slice A zs.length vc)).setCell (p := ⟨b, 2, none⟩) (.inr (.inl rfl)) (.int .i64 c)).setCell (p := ⟨b, 3, none⟩) (.inr (.inl rfl)) (.int .i64 0)).setCell (p := ⟨b, 4, none⟩) (.inr (.inl rfl)) (.int .i64 0)).setCell (p := ⟨b, 5, none⟩) (.inr (.inl rfl)) (.bool false)).setCell (p := ⟨w.heap.size + 1, 0, none⟩) (.inr (.inr rfl)) (.int .i64 0)).setCell (p := ⟨w.heap.size + 1, 1, none⟩) (.inr (.inr rfl)) (.int .i64 0)
  have hfn : ∀ {B' e size n v xs}, w2.ownsRow B' e size v n xs → e ≠ 35 → e ≠ 75 → ∀ g, v.ownBlock = some g → ¬ two b (w.heap.size + 1) g := fun hr h1 h2 g hg e => by
    obtain ⟨cl, hcl⟩ := row_type hr hg
    rcases e with e | e
    · rw [e, HH2.out.blk] at hcl
      simp only [Option.some.injEq, Obj.cells.injEq] at hcl
      exact h2 hcl.2.1.symm
    · rw [e, HF2.out] at hcl
      simp only [Option.some.injEq, Obj.cells.injEq] at hcl
      exact h1 hcl.2.1.symm
  refine bodyPost_ret (v := .agg #[.int .i64 0, .int .i64 0]) (results_cell_row rfl _ _ (w.heap.size + 1) 35 #[.int .i64 0, .int .i64 0] (0, 0) _ rfl hq Tryz.underlying35 rfl size_fault) rfl ⟨rfl, .slice A zs.length vc, ⟨hsb, rows_upd HH2.out.all U5 (hfn HH2.out.all (by decide) (by decide)), rows_upd (own_low HR.out (Nat.le_trans HBB.out HB1.out)) U5 (hfn HR.out (by decide) (by decide))⟩, fun g hg => Nat.le_trans HB1.out (HR.out.lt g hg).1, (Upd.ext HX2.out (one b)).then U5 (fun k hk e => e.elim id (fun e => absurd e (by omega)))⟩
/-! ### keep -/
theorem putL_at : ∀ (L : TxtL) (s t : ByteArray) (i : Nat) (h : i < L.length), (∀ j, j < i → ∀ p, L[j]? = some p → p.1 ≠ s) → L[i].1 = s → putL L s t = L.set i (L[i].1, t)
  | [], s, t, i, h, _, _ => by simp at h
  | p :: L, s, t, 0, h, _, e => by
    unfold putL
    rw [if_pos (show p.1 = s from e)]
    rw [List.getElem_cons_zero] at e ⊢
    rw [e]; rfl
  | p :: L, s, t, i + 1, h, hn, e => by
    have ih := putL_at L s t i (by simpa using h) (fun j hj q hq => hn (j + 1) (by omega) q (by simpa using hq)) (by simpa using e)
    unfold putL
    rw [if_neg (hn 0 (by omega) p rfl), ih]
    simp
theorem putL_end : ∀ (L : TxtL) (s t : ByteArray), (∀ j, j < L.length → ∀ p, L[j]? = some p → p.1 ≠ s) → putL L s t = L ++ [(s, t)]
  | [], s, t, _ => rfl
  | p :: L, s, t, hn => by
    have ih := putL_end L s t (fun j hj q hq => hn (j + 1) (by simpa using hj) q (by simpa using hq))
    unfold putL
    rw [if_neg (hn 0 (by simp) p rfl), ih]; rfl
theorem wrCells_set : ∀ (L : TxtL) (i : Nat) (h : i < L.length) (t : ByteArray), (wrCells L).set (i * 2 + 1) (.string t) = wrCells (L.set i (L[i].1, t))
  | [], i, h, t => by simp at h
  | p :: L, 0, h, t => rfl
  | p :: L, i + 1, h, t => by
    have ih := wrCells_set L i (by simpa using h) t
    have e : wrCells (p :: L) = .string p.1 :: .string p.2 :: wrCells L := rfl
    rw [e, show (i + 1) * 2 + 1 = (i * 2 + 1) + 1 + 1 by omega, List.set_cons_succ, List.set_cons_succ, ih]
    simp [wrCells]
theorem rown_set {W : World} {B : Nat} {e : TypeId} {size : Nat} {v : Value} {n : Nat} {xs : List Value} (h : W.ownsRow B e size v n xs) {g : Nat} (hg : v.ownBlock = some g) (c : Nat) (u : Value) : (W.setCell ⟨g, c, none⟩ u).ownsRow B e size v n (xs.set c u) := by
  refine ⟨by rw [List.length_set]; exact h.1, ?_⟩
  rcases h.2 with ⟨hv, _⟩ | ⟨g', cap, cur, hv, hb, hgg, hnc, hcm, hcs, ht⟩
  · rw [hv] at hg; cases hg
  · rw [hv] at hg
    obtain rfl : g' = g := by simpa [Value.ownBlock] using hg
    refine .inr ⟨g', cap, _, hv, hb, blk_set hgg c u, hnc, hcm, by simpa using hcs, ?_⟩
    rw [← ht]
    simp [List.take_set]
/-- The cells of the i-th text. -/
theorem text_cells {w : World} {B : Nat} {e : TypeId} {v : Value} {L : TxtL} (h : w.ownsRow B e 2 v L.length (wrCells L)) (i : Nat) (hi : i < L.length) : ∃ g cap, v = .slice (some ⟨g, 0, none⟩) L.length cap ∧ w.cell? ⟨g, i * 2, none⟩ = some (.string L[i].1) ∧ w.cell? ⟨g, i * 2 + 1, none⟩ = some (.string L[i].2) ∧ w.frozen? ⟨g, i * 2 + 1, none⟩ = false := by
  rcases h.2 with ⟨_, h0⟩ | ⟨g, cap, cur, rfl, _, hb, _⟩
  · omega
  · obtain ⟨c0, c1⟩ := wrCells_at L i _ (List.getElem?_eq_getElem hi)
    have ea : ∀ j, (⟨g, 0, none⟩ : Addr).add j = ⟨g, j, none⟩ := fun j => by unfold Addr.add; split <;> simp_all
    have h0 := h.cells (g := g) rfl _ _ c0
    have h1 := h.cells (g := g) rfl _ _ c1
    rw [ea] at h0 h1
    exact ⟨g, cap, rfl, h0, h1, free_of_blk hb _⟩
theorem info_text : (Tryz.prog.info? 103).map (fun i => (i.zero, i.size, i.bytes)) = some (some (.agg #[.string ⟨#[]⟩, .string ⟨#[]⟩]), 2, 32) := by kernel_rfl
theorem text_new (w : World) (s t : ByteArray) (j : Nat) (u : Value) (hu : ([.string s, .string t] : List Value)[j]? = some u) : (w.alloc (.cells #[.string s, .string t] 103)).cell? ((⟨w.heap.size, 0, none⟩ : Addr).add j) = some u := by
  have ea : (⟨w.heap.size, 0, none⟩ : Addr).add j = ⟨w.heap.size, 0 + j, none⟩ := by unfold Addr.add; split <;> simp_all
  rw [ea, cell_of_blk (blk_alloc w _)]
  simpa using hu
theorem text_ones (s t : ByteArray) : ∀ u ∈ ([.string s, .string t] : List Value), u.oneCell' = true := fun u hu => by
  rcases List.mem_cons.1 hu with rfl | hu
  · rfl
  · rw [List.mem_singleton.1 hu]; rfl
def KeepRel (L : TxtL) (s : ByteArray) (w : World) (iv : Value) (wr : World) : Prop := ∃ k : Nat, iv = .int .i64 k ∧ k ≤ L.length ∧ (∀ j, j < k → ∀ p, L[j]? = some p → p.1 ≠ s) ∧ w = wr
theorem beq_toList2 (a b : ByteArray) : (a.toList == b.toList) = decide (a = b) := by
  rw [Bool.eq_iff_iff]
  simp only [beq_iff_eq, decide_eq_true_eq]
  rw [ByteArray.toList_eq, ByteArray.toList_eq]
  exact ⟨fun h => ByteArray.ext (Array.ext' h), fun h => by rw [h]⟩
def KeepPost (B b : Nat) (av tv : Value) (x : StD) (w : World) (e : Ending) (w' : World) : Prop :=
  e = .returned (.tuple #[]) ∧ ∃ av', RStAt B w' b av' tv x ∧ (∀ g, av'.ownBlock = some g → av.ownBlock = some g ∨ w.heap.size ≤ g) ∧ Upd (fun g => g = b ∨ av.ownBlock = some g) w w'
set_option maxRecDepth 20000 in
set_option maxHeartbeats 8000000 in
theorem rkeep_any {B b : Nat} {av tv : Value} {x : StD} {w : World} (H : RStAt B w b av tv x) (hB : B ≤ w.heap.size) (s t : ByteArray) (hL : x.texts.length ≤ 4194304) :
    Calls Tryz.prog 93 #[.pointer (some ⟨b, 0, none⟩), .string s, .string t] w (KeepPost B b av tv { x with texts := putL x.texts s t } w) := by
  obtain ⟨i0, hi0, hz0, hz1, hz2⟩ := info_parts info_text
  have b0 : w.cell? ⟨b, 0, none⟩ = some av := cell_of_blk H.blk 0
  have f0 := free_of_blk H.blk 0
  obtain ⟨A, ac, rfl⟩ := own_sl H.all
  have HH := Lib.hid H
  have HL := Lib.hid hL
  have HBB := Lib.hid hB
  clear H hB
  generalize hLL : x.texts.length = len at *
  have HLEN := Lib.hid hLL
  clear hLL
  go_enter Tryz.func93, Tryz.ntmps93
  go_wp2_with fail
  go_loopw [6] (fun iv wr => KeepRel x.texts s w iv wr) (fun iv _ => len - (RowKit.intOf iv).toNat)
  case atStart => exact ⟨0, rfl, Nat.zero_le _, fun j hj => by omega, rfl⟩
  case round =>
    obtain ⟨k, rfl, hk, hne, rfl⟩ := hrel
    have HNE := Lib.hid hne
    rw [HLEN.out] at hk
    clear hne
    by_cases hlt : k < len
    · have hki : (k : Int) < len := by omega
      have hkl : k < x.texts.length := by rw [HLEN.out]; exact hlt
      obtain ⟨g, cap, hg, c0, c1, fr⟩ := text_cells HH.out.all k hkl
      rw [HLEN.out] at hg
      simp only [Value.slice.injEq, true_and] at hg
      obtain ⟨rfl, rfl⟩ := hg
      have heq := beq_toList2 x.texts[k].1 s
      by_cases hps : x.texts[k].1 = s
      · rw [decide_eq_true hps] at heq
        have HPUT := Lib.hid (putL_at x.texts s t k hkl HNE.out hps)
        have HWS := Lib.hid (wrCells_set x.texts k hkl t)
        generalize hp : x.texts[k] = p at *
        clear hps hp
        go_wp2_with fail
        go_end0
        have hgb : (Value.slice (some ⟨g, 0, none⟩) len ac).ownBlock = some g := rfl
        have U : Upd (fun q => q = b ∨ (Value.slice (some ⟨g, 0, none⟩) len ac).ownBlock = some q) w (w.setCell ⟨g, k * 2 + 1, none⟩ (.string t)) := (Upd.refl _ w).setCell (p := ⟨g, k * 2 + 1, none⟩) (.inr (.inr rfl)) _
        have hgb2 : g ≠ b := fun e => HH.out.avb (by rw [← e]; rfl)
        have hl : (putL x.texts s t).length = len := by rw [HPUT.out, List.length_set]; exact HLEN.out
        have ha := rown_set HH.out.all hgb (k * 2 + 1) (.string t)
        rw [HLEN.out, HWS.out, ← HPUT.out] at ha
        refine ⟨rfl, _, ⟨blk_set_ne HH.out.blk (fun e => hgb2 e.symm) _, ?_, rows_upd HH.out.row ((Upd.refl (one g) w).setCell (p := ⟨g, k * 2 + 1, none⟩) (.inr rfl) (.string t)) (fun q hq e => ?_)⟩, fun q hq => .inl hq, U⟩
        · show World.ownsRow _ B _ 2 _ (putL x.texts s t).length (wrCells (putL x.texts s t))
          rw [hl]; exact ha
        · have e1 : q = g := e
          subst e1
          obtain ⟨cl, h1⟩ := row_type HH.out.row hq
          obtain ⟨cl2, h2⟩ := row_type HH.out.all hgb
          rw [h1] at h2
          simp only [Option.some.injEq, Obj.cells.injEq] at h2
          exact absurd h2.2.1 (by decide)
      · rw [decide_eq_false hps] at heq
        have HN2 := Lib.hid (fun j (hj : j < k + 1) q (hq : x.texts[j]? = some q) => show q.1 ≠ s from by
          by_cases e : j = k
          · subst e
            rw [List.getElem?_eq_getElem hkl] at hq
            rw [← Option.some.inj hq]; exact hps
          · exact HNE.out j (by omega) q hq)
        generalize x.texts[k] = p at *
        clear hps
        go_wp2_with fail
        go_roundw
        case rel => exact ⟨k + 1, by simp, by rw [HLEN.out]; omega, HN2.out, rfl⟩
        case measure => simp [RowKit.intOf] <;> omega
    · obtain rfl : k = len := by omega
      have hki : ¬ ((k : Int) < (k : Int)) := by omega
      have HPUT := Lib.hid (putL_end x.texts s t (fun j hj => HNE.out j (by rw [HLEN.out] at hj; exact hj)))
      have EA : Ext w (w.alloc (.cells #[.string s, .string t] 103)) := (Upd.refl none' w).alloc _
      have ha := HH.out.all
      rw [HLEN.out] at ha
      have HR4 := Lib.hid (rows_upd ha EA (fun _ _ => id))
      have HN4 := Lib.hid (text_new w s t)
      have H1 := Lib.hid (text_ones s t)
      have HM := Lib.hid (show k + 1 ≤ maxLen ∧ (k + 1) * 32 ≤ 140737488355328 by have := HL.out; unfold maxLen; omega)
      have HB4 : Hid (B ≤ (w.alloc (.cells #[.string s, .string t] 103)).heap.size) := Lib.hid (Nat.le_trans HBB.out EA.size)
      have HE4 := Lib.hid EA
      clear EA ha f0 b0
      have b0 : (w.alloc (.cells #[.string s, .string t] 103)).cell? ⟨b, 0, none⟩ = some (.slice A k ac) := cell_of_blk (Ext.blk HE4.out HH.out.blk) 0
      have b0' : w.cell? ⟨b, 0, none⟩ = some (.slice A k ac) := cell_of_blk HH.out.blk 0
      go_wp2_with (at_builtin; refine wpList_app rfl _ _ 73 rfl B 103 i0 _ 2 32 Tryz.underlying73 hi0 hz0 hz1 hz2 rfl (by decide) _ _ _ rfl HR4.out ⟨w.heap.size, 0, none⟩ 1 1 [.string s, .string t] rfl rfl HN4.out H1.out HM.out.1 HM.out.2 HB4.out ?_; intro v' w5 hown' hg5 hbl; obtain ⟨A5, c5, rfl⟩ := own_sl hown'; have U5 := (Upd.refl (fun q => (Value.slice A k ac).ownBlock = some q) _).grown hg5 (fun q hq => .inr hq); have hb5 := U5.blk (Ext.blk HE4.out HH.out.blk) HH.out.avb; have b5 : w5.cell? ⟨b, 0, none⟩ = some (.slice A k ac) := cell_of_blk hb5 0; have f5 := free_of_blk hb5 0; have HB5 := Lib.hid hb5; have HU5 := Lib.hid U5; clear hb5 U5; go_frame)
      go_end0
      have hbn : (Value.slice A5 (k + 1) c5).ownBlock ≠ some b := fun e => by
        obtain ⟨cl, h1⟩ := row_type hown' e
        rw [HB5.out] at h1
        simp only [Option.some.injEq, Obj.cells.injEq] at h1
        exact absurd h1.2.1 (by decide)
      have US : Upd (one b) w5 (w5.setCell ⟨b, 0, none⟩ (.slice A5 (k + 1) c5)) := (Upd.refl (one b) w5).setCell (p := ⟨b, 0, none⟩) (.inr rfl) _
      have hl : (putL x.texts s t).length = k + 1 := by rw [HPUT.out, List.length_append, HLEN.out]; rfl
      refine ⟨rfl, .slice A5 (k + 1) c5, ⟨blk_set HB5.out 0 _, ?_, ?_⟩, fun q hq => ?_, ?_⟩
      · show World.ownsRow _ B _ 2 _ (putL x.texts s t).length (wrCells (putL x.texts s t))
        rw [hl, HPUT.out, wrCells_snoc]
        exact rows_upd hown' US (fun q hq e => hbn (by rw [hq]; exact congrArg some (show q = b from e)))
      · refine rows_upd (rows_upd (rows_upd HH.out.row HE4.out (fun _ _ => id)) HU5.out (fun q hq e => ?_)) US (fun q hq e => HH.out.tvb (by rw [hq]; exact congrArg some (show q = b from e)))
        obtain ⟨cl, h1⟩ := row_type HH.out.row hq
        obtain ⟨cl2, h2⟩ := row_type HH.out.all e
        rw [h1] at h2
        simp only [Option.some.injEq, Obj.cells.injEq] at h2
        exact absurd h2.2.1 (by decide)
      · rcases hbl with e | e
        · exact .inl (e ▸ hq)
        · rw [e] at hq
          have : (w.alloc (.cells #[.string s, .string t] 103)).heap.size = q := Option.some.inj hq
          exact .inr (by rw [← this]; exact HE4.out.size)
      · exact ((HE4.out.ext (fun g => g = b ∨ (Value.slice A k ac).ownBlock = some g)).trans (HU5.out.mono (fun _ _ h => .inr h))).trans (US.mono (fun _ _ h => .inl h))

theorem row_not_fault {w : World} {B size n q : Nat} {v : Value} {xs : List Value} {cs : Array Value} {fr : Nat × Nat} (h : w.ownsRow B 103 size v n xs) (hq : w.heap[q]? = some (.cells cs 35 fr)) : v.ownBlock ≠ some q := fun hg => by
  obtain ⟨cl, h1⟩ := row_type h hg
  rw [hq] at h1
  simp only [Option.some.injEq, Obj.cells.injEq] at h1
  exact absurd h1.2.1 (by decide)
theorem refuse_ok {x : StD} {s : ByteArray} (hn : nameOk s = true) (hd : x.dead = false) : x.refuse s = none := by unfold StD.refuse; rw [hn, hd]; rfl
theorem refuse_dead {x : StD} {s : ByteArray} (hn : nameOk s = true) (hd : x.dead = true) : x.refuse s = some (8, none) := by unfold StD.refuse; rw [hn, hd]; rfl
theorem RStAt.upd1 {B : Nat} {w w' : World} {b q : Nat} {av tv : Value} {x : StD} {cs : Array Value} {t : TypeId} {fr : Nat × Nat} (H : RStAt B w b av tv x) (hq : w.heap[q]? = some (.cells cs t fr)) (h1 : t ≠ 75) (h2 : t ≠ 103) (h3 : t ≠ 3) (u : Upd (one q) w w') : RStAt B w' b av tv x := by
  refine H.upd u (fun e => ?_) (fun g hg e => ?_) (fun g hg e => ?_)
  · have e1 : b = q := e
    rw [← e1, H.blk] at hq
    simp only [Option.some.injEq, Obj.cells.injEq] at hq
    exact h1 hq.2.1.symm
  · obtain ⟨cl, hcl⟩ := row_type H.all hg
    have e1 : g = q := e
    rw [e1, hq] at hcl
    simp only [Option.some.injEq, Obj.cells.injEq] at hcl
    exact h2 hcl.2.1
  · obtain ⟨cl, hcl⟩ := row_type H.row hg
    have e1 : g = q := e
    rw [e1, hq] at hcl
    simp only [Option.some.injEq, Obj.cells.injEq] at hcl
    exact h3 hcl.2.1
theorem RStAt.fault {B : Nat} {w : World} {b q : Nat} {av tv : Value} {x : StD} {cs : Array Value} {fr : Nat × Nat} (H : RStAt B w b av tv x) (hq : w.heap[q]? = some (.cells cs 35 fr)) (c d : Value) : RStAt B ((w.setCell ⟨q, 0, none⟩ c).setCell ⟨q, 1, none⟩ d) b av tv x :=
  H.upd1 hq (by decide) (by decide) (by decide) (upd_set2 _ q 0 1 _ _)
theorem RStAt.own1 {B : Nat} {w : World} {b : Nat} {av tv : Value} {x : StD} (H : RStAt B w b av tv x) {w' : World} (u : Upd (one b) w w') : w'.ownsRow B 103 2 av x.texts.length (wrCells x.texts) ∧ w'.ownsRow B 3 1 tv x.rs.length (x.rs.map (Value.int .i64)) :=
  ⟨rows_upd H.all u (fun g hg e => H.avb (by rw [hg]; exact congrArg some (show g = b from e))), rows_upd H.row u (fun g hg e => H.tvb (by rw [hg]; exact congrArg some (show g = b from e)))⟩
theorem RStAt.set3 {B : Nat} {w : World} {b : Nat} {av tv : Value} {x : StD} (H : RStAt B w b av tv x) (n : Nat) : RStAt B (w.setCell ⟨b, 3, none⟩ (.int .i64 (n : Int))) b av tv { x with nr := n } ∧ Upd (one b) w (w.setCell ⟨b, 3, none⟩ (.int .i64 (n : Int))) := by
  have U := (Upd.refl (one b) w).setCell (p := ⟨b, 3, none⟩) (.inr rfl) (.int .i64 (n : Int))
  exact ⟨⟨blk_set H.blk 3 _, (H.own1 U).1, (H.own1 U).2⟩, U⟩
theorem RStAt.set4 {B : Nat} {w : World} {b : Nat} {av tv : Value} {x : StD} (H : RStAt B w b av tv x) (n : Nat) : RStAt B (w.setCell ⟨b, 4, none⟩ (.int .i64 (n : Int))) b av tv { x with nw := n } ∧ Upd (one b) w (w.setCell ⟨b, 4, none⟩ (.int .i64 (n : Int))) := by
  have U := (Upd.refl (one b) w).setCell (p := ⟨b, 4, none⟩) (.inr rfl) (.int .i64 (n : Int))
  exact ⟨⟨blk_set H.blk 4 _, (H.own1 U).1, (H.own1 U).2⟩, U⟩
theorem RStAt.set5 {B : Nat} {w : World} {b : Nat} {av tv : Value} {x : StD} (H : RStAt B w b av tv x) (d : Bool) : RStAt B (w.setCell ⟨b, 5, none⟩ (.bool d)) b av tv { x with dead := d } ∧ Upd (one b) w (w.setCell ⟨b, 5, none⟩ (.bool d)) := by
  have U := (Upd.refl (one b) w).setCell (p := ⟨b, 5, none⟩) (.inr rfl) (.bool d)
  exact ⟨⟨blk_set H.blk 5 _, (H.own1 U).1, (H.own1 U).2⟩, U⟩
theorem fault_res {fn : Func} {p : Tmp} (h : fn.results = #[.cell p 35]) (tmps : Array Value) (w : World) (g : Nat) (c d : Int) (hp : tmps.getD p undef = .pointer (some ⟨g, 0, none⟩)) (hg : w.heap[g]? = some (.cells #[.int .i64 0, .int .i64 0] 35 (0, 0))) :
    (results fn tmps).run Tryz.prog ((w.setCell ⟨g, 0, none⟩ (.int .i64 c)).setCell ⟨g, 1, none⟩ (.int .i64 d)) = .ok (.agg #[.int .i64 c, .int .i64 d]) ((w.setCell ⟨g, 0, none⟩ (.int .i64 c)).setCell ⟨g, 1, none⟩ (.int .i64 d)) :=
  results_cell_row h tmps _ g 35 #[.int .i64 c, .int .i64 d] (0, 0) _ hp (blk_set (blk_set hg 0 (.int .i64 c)) 1 (.int .i64 d)) Tryz.underlying35 rfl size_fault
def RPutPost (B b : Nat) (av tv : Value) (w : World) (r : StD × EV) (e : Ending) (w' : World) : Prop :=
  e = .returned (faultV r.2) ∧ ∃ av', RStAt B w' b av' tv r.1 ∧ (∀ g, av'.ownBlock = some g → av.ownBlock = some g ∨ w.heap.size ≤ g) ∧ Upd (fun g => g = b ∨ av.ownBlock = some g) w w'
set_option maxRecDepth 20000 in
set_option maxHeartbeats 16000000 in
theorem rput_any {B b : Nat} {av tv : Value} {x : StD} {w : World} (H : RStAt B w b av tv x) (hB : B ≤ w.heap.size) (s t : ByteArray) (hs : s.size ≤ 9223372036854775807) (hn : x.nw < 4611686018427387904) (hL : x.texts.length ≤ 4194304) :
    Calls Tryz.prog 31 #[.pointer (some ⟨b, 0, none⟩), .string s, .string t] w (RPutPost B b av tv w (x.put s t)) := by
  have CN := rname_any s hs (w.alloc (.cells #[.int .i64 0, .int .i64 0] 35))
  have X := (Upd.refl none' w).alloc (.cells #[.int .i64 0, .int .i64 0] 35)
  have HF := Lib.hid (blk_alloc w (.cells #[.int .i64 0, .int .i64 0] 35))
  have HST := Lib.hid (H.ext X)
  have HX := Lib.hid X
  have HLT := Lib.hid (lt_of_blk H.blk)
  have HBB := Lib.hid hB
  have HL := Lib.hid hL
  generalize hW : w.alloc (.cells #[.int .i64 0, .int .i64 0] 35) = W at *
  have HW := Lib.hid hW
  have HQ := Lib.hid (show w.heap.size ≤ w.heap.size from Nat.le_refl _)
  generalize hq : w.heap.size = q at HF HQ
  have HQE := Lib.hid hq
  clear X H hB hL
  by_cases hok : nameOk s = true
  · rw [hok] at CN
    have b5 : W.cell? ⟨b, 5, none⟩ = some (.bool x.dead) := cell_of_blk HST.out.blk 5
    cases hd : x.dead with
    | true =>
      have HP := Lib.hid (show x.put s t = (x, some (8, none)) by unfold StD.put; rw [refuse_dead hok hd])
      rw [hd] at b5
      clear hd hok

      go_enter Tryz.func31, Tryz.ntmps31
      go_wp2_with fail
      refine CN.mono ?_
      rintro e w1 ⟨rfl, rfl⟩
      clear CN hW hq
      have CP := plainF 8 (by decide) W
      go_wp2_with fail
      refine CP.mono ?_
      rintro e w2 ⟨rfl, up⟩
      have HFQ := Lib.hid (Ext.blk up HF.out)
      have HSQ := Lib.hid (HST.out.ext up)
      have f0 := free_of_blk HFQ.out 0
      have f1 := free_of_blk HFQ.out 1
      have k0 : w2.cell? ⟨q, 0, none⟩ = some (.int .i64 0) := cell_of_blk HFQ.out 0
      have k1 : w2.cell? ⟨q, 1, none⟩ = some (.int .i64 0) := cell_of_blk HFQ.out 1
      have HUP := Lib.hid up
      clear up CP
      go_wp2_with fail
      refine bodyPost_ret (v := .agg #[.int .i64 8, .int .i64 (-1)]) (fault_res rfl _ _ q _ _ rfl HFQ.out) rfl ?_
      rw [HP.out]
      exact ⟨rfl, av, HSQ.out.fault HFQ.out _ _, fun g hg => .inl hg, (Upd.ext (HX.out.trans HUP.out) _).then (upd_set2 _ q 0 1 _ _) (fun k hk e => by have : k = q := e; have := HQE.out; omega)⟩
    | false =>
      rw [hd] at b5
      have HRF := Lib.hid (refuse_ok hok hd)
      have b2 : W.cell? ⟨b, 2, none⟩ = some (.int .i64 x.crash) := cell_of_blk HST.out.blk 2
      have b4 : W.cell? ⟨b, 4, none⟩ = some (.int .i64 (x.nw : Int)) := cell_of_blk HST.out.blk 4
      have f4 := free_of_blk HST.out.blk 4
      have f5 := free_of_blk HST.out.blk 5
      have hw : IntKind.i64.wrap ((x.nw : Int) + 1) = (x.nw : Int) + 1 := IntWalk.i64_in _ (by omega)
      have hw2 : IntKind.i64.wrap (-((x.nw : Int) + 1)) = -((x.nw : Int) + 1) := IntWalk.i64_in _ (by omega)
      have hs1 := HST.out.set4 (x.nw + 1)
      have HS1 := Lib.hid (show RStAt B (W.setCell ⟨b, 4, none⟩ (.int .i64 ((x.nw : Int) + 1))) b av tv { x with nw := x.nw + 1 } from by
        have := hs1.1; simpa [rstRow] using this)
      have HU1 := Lib.hid (show Upd (one b) W (W.setCell ⟨b, 4, none⟩ (.int .i64 ((x.nw : Int) + 1))) from by have := hs1.2; simpa using this)
      have HNQ := Lib.hid (show q ≠ b from by have := HLT.out; have := HQE.out; omega)
      have HF1 := Lib.hid (blk_set_ne HF.out (p := ⟨b, 4, none⟩) HNQ.out (.int .i64 ((x.nw : Int) + 1)))
      clear hs1 hok
      by_cases hc : x.crash = (x.nw : Int) + 1
      · have HP := Lib.hid (show x.put s t = ({ x with nw := x.nw + 1, dead := true }, some (8, none)) by unfold StD.put; rw [HRF.out]; simp only; rw [if_pos hc])
        have hcb : (x.crash == (x.nw : Int) + 1) = true := by simp [hc]
        clear hc
        go_enter Tryz.func31, Tryz.ntmps31
        go_wp2_with fail
        refine CN.mono ?_
        rintro e w1 ⟨rfl, rfl⟩
        clear CN hW hq
        go_wp2_with fail
        go_quiet (fail)
        have HS2 := Lib.hid (HS1.out.ext ((Upd.refl none' _).drewN nq))
        have HF2 := Lib.hid (Ext.blk ((Upd.refl none' _).drewN nq) HF1.out)
        have HU2 := Lib.hid (HU1.out.drewN nq)
        have HS3 := Lib.hid (HS2.out.set5 true).1
        have HU3 := Lib.hid (HU2.out.trans (HS2.out.set5 true).2)
        have HF3 := Lib.hid (blk_set_ne HF2.out (p := ⟨b, 5, none⟩) HNQ.out (.bool true))
        clear HS2 HU2 HF2 HS1 HU1 HF1
        go_wp2_with fail
        generalize hW2 : World.setCell _ ⟨b, 5, none⟩ (.bool true) = W2 at *
        clear hW2
        have CP := plainF 8 (by decide) W2
        go_wp2_with fail
        refine CP.mono ?_
        rintro e w3 ⟨rfl, up⟩
        have HFQ := Lib.hid (Ext.blk up HF3.out)
        have HSQ := Lib.hid (HS3.out.ext up)
        have f0 := free_of_blk HFQ.out 0
        have f1 := free_of_blk HFQ.out 1
        have k0 : w3.cell? ⟨q, 0, none⟩ = some (.int .i64 0) := cell_of_blk HFQ.out 0
        have k1 : w3.cell? ⟨q, 1, none⟩ = some (.int .i64 0) := cell_of_blk HFQ.out 1
        have HUP := Lib.hid up
        clear up CP
        go_wp2_with fail
        refine bodyPost_ret (v := .agg #[.int .i64 8, .int .i64 (-1)]) (fault_res rfl _ _ q _ _ rfl HFQ.out) rfl ?_
        rw [HP.out]
        exact ⟨rfl, av, HSQ.out.fault HFQ.out _ _, fun g hg => .inl hg, ((Upd.ext HX.out _).then ((HU3.out.thenExt HUP.out).mono (fun _ _ h => .inl h)) (fun _ _ h => h)).then (upd_set2 _ q 0 1 _ _) (fun k hk e => by have : k = q := e; have := HQE.out; omega)⟩
      · have hcb : (x.crash == (x.nw : Int) + 1) = false := by simp [hc]
        go_enter Tryz.func31, Tryz.ntmps31
        go_wp2_with fail
        refine CN.mono ?_
        rintro e w1 ⟨rfl, rfl⟩
        clear CN hW hq
        go_wp2_with fail
        go_quiet (fail)
        have HS2 := Lib.hid (HS1.out.ext ((Upd.refl none' _).drewN nq))
        have HF2 := Lib.hid (Ext.blk ((Upd.refl none' _).drewN nq) HF1.out)
        have HU2 := Lib.hid (HU1.out.drewN nq)
        have CK := rkeep_any HS2.out (by have := HBB.out; have := (HX.out.trans (Upd.refl none' W)).size; have := HU2.out.size; omega) s t HL.out
        have HSZ := Lib.hid (Nat.le_trans HX.out.size HU2.out.size)
        clear HS1 HU1 HF1
        go_wp2_with fail
        refine CK.mono ?_
        rintro e w3 ⟨rfl, av2, h3, hav, u3⟩
        have HAV := Lib.hid (show ∀ g, av2.ownBlock = some g → av.ownBlock = some g ∨ w.heap.size ≤ g from fun g hg => (hav g hg).imp id (fun h => Nat.le_trans HSZ.out h))
        have HS3 := Lib.hid h3
        have HF3 := Lib.hid (u3.blk HF2.out (fun e => e.elim HNQ.out (fun e => absurd e (row_not_fault HS2.out.all HF2.out))))
        have HU3 := Lib.hid (((HU2.out.mono (fun _ _ h => .inl h)).trans u3 : Upd (fun g => g = b ∨ av.ownBlock = some g) W w3))
        have b2 : w3.cell? ⟨b, 2, none⟩ = some (.int .i64 x.crash) := cell_of_blk HS3.out.blk 2
        have b4 : w3.cell? ⟨b, 4, none⟩ = some (.int .i64 ((x.nw : Int) + 1)) := cell_of_blk HS3.out.blk 4
        have b5 : w3.cell? ⟨b, 5, none⟩ = some (.bool x.dead) := cell_of_blk HS3.out.blk 5
        have f5 := free_of_blk HS3.out.blk 5
        clear h3 u3 hav CK HS2 HU2 HF2 HSZ f4
        by_cases hc2 : x.crash = -((x.nw : Int) + 1)
        · have HP := Lib.hid (show x.put s t = ({ x with nw := x.nw + 1, texts := putL x.texts s t, dead := true }, some (8, none)) by unfold StD.put; rw [HRF.out]; simp only; rw [if_neg hc, if_pos hc2])
          have hcb2 : (x.crash == -((x.nw : Int) + 1)) = true := by simp [hc2]
          clear hc hc2 hcb
          go_wp2_with fail
          go_quiet (fail)
          have HS4 := Lib.hid (HS3.out.ext ((Upd.refl none' _).drewN nq))
          have HF4 := Lib.hid (Ext.blk ((Upd.refl none' _).drewN nq) HF3.out)
          have HU4 := Lib.hid (HU3.out.drewN nq)
          have HS5 := Lib.hid (HS4.out.set5 true).1
          have HU5 := Lib.hid (HU4.out.trans ((HS4.out.set5 true).2.mono (fun _ _ h => .inl h)))
          have HF5 := Lib.hid (blk_set_ne HF4.out (p := ⟨b, 5, none⟩) HNQ.out (.bool true))
          clear HS4 HU4 HF4 HS3 HU3 HF3
          go_wp2_with fail
          generalize hW2 : World.setCell _ ⟨b, 5, none⟩ (.bool true) = W2 at *
          clear hW2
          have CP := plainF 8 (by decide) W2
          go_wp2_with fail
          refine CP.mono ?_
          rintro e w6 ⟨rfl, up⟩
          have HFQ := Lib.hid (Ext.blk up HF5.out)
          have HSQ := Lib.hid (HS5.out.ext up)
          have f0 := free_of_blk HFQ.out 0
          have f1 := free_of_blk HFQ.out 1
          have k0 : w6.cell? ⟨q, 0, none⟩ = some (.int .i64 0) := cell_of_blk HFQ.out 0
          have k1 : w6.cell? ⟨q, 1, none⟩ = some (.int .i64 0) := cell_of_blk HFQ.out 1
          have HUP := Lib.hid up
          clear up CP
          go_wp2_with fail
          refine bodyPost_ret (v := .agg #[.int .i64 8, .int .i64 (-1)]) (fault_res rfl _ _ q _ _ rfl HFQ.out) rfl ?_
          rw [HP.out]
          exact ⟨rfl, av2, HSQ.out.fault HFQ.out _ _, HAV.out, ((Upd.ext HX.out _).then (HU5.out.thenExt HUP.out) (fun _ _ h => h)).then (upd_set2 _ q 0 1 _ _) (fun k hk e => by have : k = q := e; have := HQE.out; omega)⟩
        · have HP := Lib.hid (show x.put s t = ({ x with nw := x.nw + 1, texts := putL x.texts s t }, none) by unfold StD.put; rw [HRF.out]; simp only; rw [if_neg hc, if_neg hc2])
          have hcb2 : (x.crash == -((x.nw : Int) + 1)) = false := by simp [hc2]
          clear hc hc2 hcb
          go_wp2_with fail
          go_quiet (fail)
          have HSQ := Lib.hid (HS3.out.ext ((Upd.refl none' _).drewN nq))
          have HFQ := Lib.hid (Ext.blk ((Upd.refl none' _).drewN nq) HF3.out)
          have HU4 := Lib.hid (HU3.out.drewN nq)
          have f0 := free_of_blk HFQ.out 0
          have f1 := free_of_blk HFQ.out 1
          have k0 : World.cell? _ ⟨q, 0, none⟩ = some (.int .i64 0) := cell_of_blk HFQ.out 0
          have k1 : World.cell? _ ⟨q, 1, none⟩ = some (.int .i64 0) := cell_of_blk HFQ.out 1
          go_wp2_with fail
          refine bodyPost_ret (v := .agg #[.int .i64 0, .int .i64 0]) (fault_res rfl _ _ q _ _ rfl HFQ.out) rfl ?_
          rw [HP.out]
          exact ⟨rfl, av2, HSQ.out.fault HFQ.out _ _, HAV.out, ((Upd.ext HX.out _).then HU4.out (fun _ _ h => h)).then (upd_set2 _ q 0 1 _ _) (fun k hk e => by have : k = q := e; have := HQE.out; omega)⟩
  · rw [Bool.not_eq_true] at hok
    rw [hok] at CN
    have HP := Lib.hid (show x.put s t = (x, some (2, none)) by unfold StD.put StD.refuse; rw [hok]; rfl)
    clear hok
    go_enter Tryz.func31, Tryz.ntmps31
    go_wp2_with fail
    refine CN.mono ?_
    rintro e w1 ⟨rfl, rfl⟩
    clear CN hW hq
    have CP := plainF 2 (by decide) W
    go_wp2_with fail
    refine CP.mono ?_
    rintro e w2 ⟨rfl, up⟩
    have HFQ := Lib.hid (Ext.blk up HF.out)
    have HSQ := Lib.hid (HST.out.ext up)
    have f0 := free_of_blk HFQ.out 0
    have f1 := free_of_blk HFQ.out 1
    have k0 : w2.cell? ⟨q, 0, none⟩ = some (.int .i64 0) := cell_of_blk HFQ.out 0
    have k1 : w2.cell? ⟨q, 1, none⟩ = some (.int .i64 0) := cell_of_blk HFQ.out 1
    have HUP := Lib.hid up
    clear up CP
    go_wp2_with fail
    refine bodyPost_ret (v := .agg #[.int .i64 2, .int .i64 (-1)]) (fault_res rfl _ _ q _ _ rfl HFQ.out) rfl ?_
    rw [HP.out]
    exact ⟨rfl, av, HSQ.out.fault HFQ.out _ _, fun g hg => .inl hg, (Upd.ext (HX.out.trans HUP.out) _).then (upd_set2 _ q 0 1 _ _) (fun k hk e => by have : k = q := e; have := HQE.out; omega)⟩

theorem fault_res2 {fn : Func} {p u : Tmp} (h : fn.results = #[.tmp u, .cell p 35]) (tmps : Array Value) (w : World) (g : Nat) (v : Value) (c d : Int) (hv : tmps.getD u undef = v) (hp : tmps.getD p undef = .pointer (some ⟨g, 0, none⟩)) (hg : w.heap[g]? = some (.cells #[.int .i64 0, .int .i64 0] 35 (0, 0))) :
    (results fn tmps).run Tryz.prog ((w.setCell ⟨g, 0, none⟩ (.int .i64 c)).setCell ⟨g, 1, none⟩ (.int .i64 d)) = .ok (.tuple #[v, .agg #[.int .i64 c, .int .i64 d]]) ((w.setCell ⟨g, 0, none⟩ (.int .i64 c)).setCell ⟨g, 1, none⟩ (.int .i64 d)) :=
  results_tmp_cell h tmps _ g 35 #[.int .i64 c, .int .i64 d] (0, 0) _ v hv hp (blk_set (blk_set hg 0 (.int .i64 c)) 1 (.int .i64 d)) Tryz.underlying35 rfl size_fault
theorem lookL_at : ∀ (L : TxtL) (s : ByteArray) (i : Nat) (h : i < L.length), (∀ j, j < i → ∀ p, L[j]? = some p → p.1 ≠ s) → L[i].1 = s → lookL L s = some L[i].2
  | [], s, i, h, _, _ => by simp at h
  | p :: L, s, 0, h, _, e => by
    unfold lookL
    rw [if_pos (show p.1 = s from e)]; rfl
  | p :: L, s, i + 1, h, hn, e => by
    have ih := lookL_at L s i (by simpa using h) (fun j hj q hq => hn (j + 1) (by omega) q (by simpa using hq)) (by simpa using e)
    unfold lookL
    rw [if_neg (hn 0 (by omega) p rfl), ih]
    simp
theorem lookL_end : ∀ (L : TxtL) (s : ByteArray), (∀ j, j < L.length → ∀ p, L[j]? = some p → p.1 ≠ s) → lookL L s = none
  | [], s, _ => rfl
  | p :: L, s, hn => by
    have ih := lookL_end L s (fun j hj q hq => hn (j + 1) (by simpa using hj) q (by simpa using hq))
    unfold lookL
    rw [if_neg (hn 0 (by simp) p rfl), ih]
def RgRel (rs : List Int) (n : Int) (w : World) (iv : Value) (wr : World) : Prop := ∃ k : Nat, iv = .int .i64 k ∧ k ≤ rs.length ∧ ¬ n ∈ rs.take k ∧ Ext w wr
def RlRel (L : TxtL) (s : ByteArray) (w : World) (iv : Value) (wr : World) : Prop := ∃ k : Nat, iv = .int .i64 k ∧ k ≤ L.length ∧ (∀ j, j < k → ∀ p, L[j]? = some p → p.1 ≠ s) ∧ Ext w wr
theorem ints_at {w : World} {B : Nat} {v : Value} {zs : List Int} (h : w.ownsRow B 3 1 v zs.length (zs.map (Value.int .i64))) (i : Nat) (hi : i < zs.length) : ∃ g cap, v = .slice (some ⟨g, 0, none⟩) zs.length cap ∧ w.cell? ⟨g, i, none⟩ = some (.int .i64 zs[i]) := by
  rcases h.2 with ⟨_, h0⟩ | ⟨g, cap, cur, rfl, _, hb, _⟩
  · omega
  · have ea : ∀ j, (⟨g, 0, none⟩ : Addr).add j = ⟨g, j, none⟩ := fun j => by unfold Addr.add; split <;> simp_all
    have h0 := h.cells (g := g) rfl i (.int .i64 zs[i]) (by rw [List.getElem?_map, List.getElem?_eq_getElem hi]; rfl)
    rw [ea] at h0
    exact ⟨g, cap, rfl, h0⟩
def RGetPost (B b : Nat) (av tv : Value) (w : World) (r : StD × ByteArray × EV) (e : Ending) (w' : World) : Prop :=
  e = .returned (.tuple #[.string r.2.1, faultV r.2.2]) ∧ RStAt B w' b av tv r.1 ∧ Upd (one b) w w'

set_option maxRecDepth 20000 in
set_option maxHeartbeats 16000000 in
theorem rget_any {B b : Nat} {av tv : Value} {x : StD} {w : World} (H : RStAt B w b av tv x) (s : ByteArray) (hs : s.size ≤ 9223372036854775807) (hn : x.nr < 4611686018427387904) (hR : x.rs.length ≤ 4398046511104) (hL : x.texts.length ≤ 4398046511104) :
    Calls Tryz.prog 32 #[.pointer (some ⟨b, 0, none⟩), .string s] w (RGetPost B b av tv w (x.get s)) := by
  have CN := rname_any s hs (w.alloc (.cells #[.int .i64 0, .int .i64 0] 35))
  have X := (Upd.refl none' w).alloc (.cells #[.int .i64 0, .int .i64 0] 35)
  have HF := Lib.hid (blk_alloc w (.cells #[.int .i64 0, .int .i64 0] 35))
  have HST := Lib.hid (H.ext X)
  have HX := Lib.hid X
  have HLT := Lib.hid (lt_of_blk H.blk)
  have HL := Lib.hid hL
  have HRL := Lib.hid hR
  generalize hW : w.alloc (.cells #[.int .i64 0, .int .i64 0] 35) = W at *
  have HW := Lib.hid hW
  have HQ := Lib.hid (show w.heap.size ≤ w.heap.size from Nat.le_refl _)
  generalize hq : w.heap.size = q at HF HQ
  have HQE := Lib.hid hq
  clear X H hL hR
  by_cases hok : nameOk s = true
  · rw [hok] at CN
    have b5 : W.cell? ⟨b, 5, none⟩ = some (.bool x.dead) := cell_of_blk HST.out.blk 5
    cases hd : x.dead with
    | true =>
      have HP := Lib.hid (show x.get s = (x, ⟨#[]⟩, some (8, none)) by unfold StD.get; rw [refuse_dead hok hd])
      rw [hd] at b5
      clear hd hok

      go_enter Tryz.func32, Tryz.ntmps32
      go_wp2_with fail
      refine CN.mono ?_
      rintro e w1 ⟨rfl, rfl⟩
      clear CN hW hq
      have CP := plainF 8 (by decide) W
      go_wp2_with fail
      refine CP.mono ?_
      rintro e w2 ⟨rfl, up⟩
      have HFQ := Lib.hid (Ext.blk up HF.out)
      have HSQ := Lib.hid (HST.out.ext up)
      have f0 := free_of_blk HFQ.out 0
      have f1 := free_of_blk HFQ.out 1
      have k0 : w2.cell? ⟨q, 0, none⟩ = some (.int .i64 0) := cell_of_blk HFQ.out 0
      have k1 : w2.cell? ⟨q, 1, none⟩ = some (.int .i64 0) := cell_of_blk HFQ.out 1
      have HUP := Lib.hid up
      clear up CP
      go_wp2_with fail
      refine bodyPost_ret (v := .tuple #[.string ⟨#[]⟩, .agg #[.int .i64 8, .int .i64 (-1)]]) (fault_res2 rfl _ _ q _ _ _ rfl rfl HFQ.out) rfl ?_
      rw [HP.out]
      exact ⟨rfl, HSQ.out.fault HFQ.out _ _, ((Upd.ext HX.out _).then (Upd.ext HUP.out (one b)) (fun _ _ h => h)).then (upd_set2 _ q 0 1 _ _) (fun k hk e => by have : k = q := e; have := HQE.out; omega)⟩
    | false =>
      rw [hd] at b5
      have HRF := Lib.hid (refuse_ok hok hd)
      have b3 : W.cell? ⟨b, 3, none⟩ = some (.int .i64 (x.nr : Int)) := cell_of_blk HST.out.blk 3
      have f3 := free_of_blk HST.out.blk 3
      have hw : IntKind.i64.wrap ((x.nr : Int) + 1) = (x.nr : Int) + 1 := IntWalk.i64_in _ (by omega)
      have hs1 := HST.out.set3 (x.nr + 1)
      have HS1 := Lib.hid (show RStAt B (W.setCell ⟨b, 3, none⟩ (.int .i64 ((x.nr : Int) + 1))) b av tv { x with nr := x.nr + 1 } from by
        have := hs1.1; simpa [rstRow] using this)
      have HU1 := Lib.hid (show Upd (one b) W (W.setCell ⟨b, 3, none⟩ (.int .i64 ((x.nr : Int) + 1))) from by have := hs1.2; simpa using this)
      have HNQ := Lib.hid (show q ≠ b from by have := HLT.out; have := HQE.out; omega)
      have HF1 := Lib.hid (blk_set_ne HF.out (p := ⟨b, 3, none⟩) HNQ.out (.int .i64 ((x.nr : Int) + 1)))
      have HPF : Hid (((x.nr : Int) + 1) ∈ x.rs → x.get s = ({ x with nr := x.nr + 1 }, ⟨#[]⟩, some (7, none))) := Lib.hid (fun hm => by unfold StD.get; rw [HRF.out]; simp only; rw [if_pos hm])
      have HPN : Hid (¬ ((x.nr : Int) + 1) ∈ x.rs → x.get s = ({ x with nr := x.nr + 1 }, (lookL x.texts s).getD ⟨#[]⟩, if (lookL x.texts s).isSome then none else some (6, none))) := Lib.hid (fun hm => by unfold StD.get; rw [HRF.out]; simp only; rw [if_neg hm])
      clear hs1 hok
      go_enter Tryz.func32, Tryz.ntmps32
      go_wp2_with fail
      refine CN.mono ?_
      rintro e w1 ⟨rfl, rfl⟩
      clear CN hW hq
      obtain ⟨RA, rc, rfl⟩ := own_sl HS1.out.row
      obtain ⟨TA, tc, rfl⟩ := own_sl HS1.out.all
      go_wp2_with fail
      generalize hW1 : W.setCell ⟨b, 3, none⟩ (.int .i64 ((x.nr : Int) + 1)) = W1 at *
      clear hW1
      generalize hrl : x.rs.length = rl at *
      have HRLE := Lib.hid hrl
      generalize htl : x.texts.length = tl at *
      have HTLE := Lib.hid htl
      clear hrl htl
      go_loopw [6] (fun iv wr => RgRel x.rs ((x.nr : Int) + 1) W1 iv wr) (fun iv _ => rl - (RowKit.intOf iv).toNat)
      case atStart => exact ⟨0, rfl, Nat.zero_le _, by simp, Upd.refl _ _⟩
      case round =>
        obtain ⟨k, rfl, hk, hmem, hX⟩ := hrel
        rw [HRLE.out] at hk
        have HME := Lib.hid hmem
        have HX2 := Lib.hid hX
        have HS2 := Lib.hid (HS1.out.ext hX)
        have HF2 := Lib.hid (Ext.blk hX HF1.out)
        clear hmem hX
        have c1 : wr.cell? ⟨b, 1, none⟩ = some (.slice RA rl rc) := cell_of_blk HS2.out.blk 1
        have c3 : wr.cell? ⟨b, 3, none⟩ = some (.int .i64 ((x.nr : Int) + 1)) := cell_of_blk HS2.out.blk 3
        by_cases hlt : k < rl
        · have hki : (k : Int) < rl := by omega
          have hkb : k < 4398046511104 := by have := HRL.out; omega
          have hkl : k < x.rs.length := by rw [HRLE.out]; exact hlt
          obtain ⟨g, cap, hg, ck⟩ := ints_at HS2.out.row k hkl
          simp only at hg
          rw [HRLE.out] at hg
          simp only [Value.slice.injEq, true_and] at hg
          obtain ⟨rfl, rfl⟩ := hg
          have HMEM := Lib.hid (List.getElem_mem hkl)
          have HTK := Lib.hid (show ¬ x.rs[k] = (x.nr : Int) + 1 → ¬ ((x.nr : Int) + 1) ∈ x.rs.take (k + 1) from fun hne hm => by
            rw [List.take_succ_eq_append_getElem hkl, List.mem_append, List.mem_singleton] at hm
            exact hm.elim HME.out (fun e => hne e.symm))
          generalize x.rs[k] = y at *
          by_cases hy : y = (x.nr : Int) + 1
          · have HP := Lib.hid (HPF.out (by rw [← hy]; exact HMEM.out))
            have hyb : (y == (x.nr : Int) + 1) = true := by simp [hy]
            clear hy
            go_wp2_with fail
            go_quiet (fail)
            have HS3 := Lib.hid (HS2.out.ext ((Upd.refl none' _).drewN nq))
            have HF3 := Lib.hid (Ext.blk ((Upd.refl none' _).drewN nq) HF2.out)
            have HX3 := Lib.hid (HX2.out.drewN nq)
            have CP := plainF 7 (by decide) (wr.drewN nq)
            go_wp2_with fail
            refine CP.mono ?_
            rintro e w3 ⟨rfl, up⟩
            have HFQ := Lib.hid (Ext.blk up HF3.out)
            have HSQ := Lib.hid (HS3.out.ext up)
            have f0 := free_of_blk HFQ.out 0
            have f1 := free_of_blk HFQ.out 1
            have k0 : w3.cell? ⟨q, 0, none⟩ = some (.int .i64 0) := cell_of_blk HFQ.out 0
            have k1 : w3.cell? ⟨q, 1, none⟩ = some (.int .i64 0) := cell_of_blk HFQ.out 1
            have HUP := Lib.hid up
            clear up CP
            go_wp2_with fail
            refine bodyPost_ret (v := .tuple #[.string ⟨#[]⟩, .agg #[.int .i64 7, .int .i64 (-1)]]) (fault_res2 rfl _ _ q _ _ _ rfl rfl HFQ.out) rfl ?_
            rw [HP.out]
            exact ⟨rfl, HSQ.out.fault HFQ.out _ _, ((Upd.ext HX.out _).then ((HU1.out.thenExt HX3.out).thenExt HUP.out) (fun _ _ h => h)).then (upd_set2 _ q 0 1 _ _) (fun k hk e => by have : k = q := e; have := HQE.out; omega)⟩
          · have HTK2 := Lib.hid (HTK.out hy)
            have hyb : (y == (x.nr : Int) + 1) = false := by simp [hy]
            clear hy
            go_wp2_with fail
            go_quiet (fail)
            go_wp2_with fail
            go_roundw
            case rel => exact ⟨k + 1, by simp, by rw [HRLE.out]; omega, HTK2.out, HX2.out.drewN _⟩
            case measure => simp [RowKit.intOf] <;> omega
        · obtain rfl : k = rl := by omega
          have hki : ¬ ((k : Int) < (k : Int)) := by omega
          have HNM := Lib.hid (show ¬ ((x.nr : Int) + 1) ∈ x.rs from fun hm => HME.out (by rw [List.take_of_length_le (by rw [HRLE.out]; exact Nat.le_refl _)]; exact hm))
          generalize wr = W4 at *
          go_wp2_with fail
          go_loopw [7] (fun iv w5 => RlRel x.texts s W4 iv w5) (fun iv _ => tl - (RowKit.intOf iv).toNat)
          case atStart => exact ⟨0, rfl, Nat.zero_le _, fun j hj => by omega, Upd.refl _ _⟩
          case round =>
            obtain ⟨j, rfl, hj, hne, hX⟩ := hrel
            rw [HTLE.out] at hj
            have HNE := Lib.hid hne
            have HX5 := Lib.hid (HX2.out.trans hX)
            have HXL := Lib.hid hX
            have HS5 := Lib.hid (HS2.out.ext hX)
            have HF5 := Lib.hid (Ext.blk hX HF2.out)
            clear hne hX c1 c3
            have c0 : wr.cell? ⟨b, 0, none⟩ = some (.slice TA tl tc) := cell_of_blk HS5.out.blk 0
            have f0 := free_of_blk HF5.out 0
            have f1 := free_of_blk HF5.out 1
            have k0 : wr.cell? ⟨q, 0, none⟩ = some (.int .i64 0) := cell_of_blk HF5.out 0
            have k1 : wr.cell? ⟨q, 1, none⟩ = some (.int .i64 0) := cell_of_blk HF5.out 1
            by_cases hlt2 : j < tl
            · have hji : (j : Int) < tl := by omega
              have hjb : j < 4398046511104 := by have := HL.out; omega
              have hjl : j < x.texts.length := by rw [HTLE.out]; exact hlt2
              obtain ⟨g, cap, hg, d0, d1, _⟩ := text_cells HS5.out.all j hjl
              simp only at hg
              rw [HTLE.out] at hg
              simp only [Value.slice.injEq, true_and] at hg
              obtain ⟨rfl, rfl⟩ := hg
              have heq := beq_toList2 x.texts[j].1 s
              by_cases hps : x.texts[j].1 = s
              · rw [decide_eq_true hps] at heq
                have HLK := Lib.hid (lookL_at x.texts s j hjl HNE.out hps)
                generalize x.texts[j] = p at *
                clear hps
                have HP := Lib.hid (show x.get s = ({ x with nr := x.nr + 1 }, p.2, none) by rw [HPN.out HNM.out, HLK.out]; rfl)
                have HFQ := HF5
                have HSQ := HS5
                go_wp2_with fail
                refine bodyPost_ret (v := .tuple #[.string p.2, .agg #[.int .i64 0, .int .i64 (0)]]) (fault_res2 rfl _ _ q _ _ _ rfl rfl HFQ.out) rfl ?_
                rw [HP.out]
                exact ⟨rfl, HSQ.out.fault HFQ.out _ _, ((Upd.ext HX.out _).then (HU1.out.thenExt HX5.out) (fun _ _ h => h)).then (upd_set2 _ q 0 1 _ _) (fun k hk e => by have : k = q := e; have := HQE.out; omega)⟩
              · rw [decide_eq_false hps] at heq
                have HN2 := Lib.hid (fun i (hi : i < j + 1) r (hr : x.texts[i]? = some r) => show r.1 ≠ s from by
                  by_cases e : i = j
                  · subst e
                    rw [List.getElem?_eq_getElem hjl] at hr
                    rw [← Option.some.inj hr]; exact hps
                  · exact HNE.out i (by omega) r hr)
                generalize x.texts[j] = p at *
                clear hps
                go_wp2_with fail
                go_roundw
                case rel => exact ⟨j + 1, by simp, by rw [HTLE.out]; omega, HN2.out, HXL.out⟩
                case measure => simp [RowKit.intOf] <;> omega
            · obtain rfl : j = tl := by omega
              have hji : ¬ ((j : Int) < (j : Int)) := by omega
              have HP := Lib.hid (show x.get s = ({ x with nr := x.nr + 1 }, ⟨#[]⟩, some (6, none)) by rw [HPN.out HNM.out, lookL_end x.texts s (fun i hi => HNE.out i (by rw [HTLE.out] at hi; exact hi))]; rfl)
              clear k0 k1 f0 f1
              have CP := plainF 6 (by decide) wr
              go_wp2_with fail
              refine CP.mono ?_
              rintro e w7 ⟨rfl, up⟩
              have HFQ := Lib.hid (Ext.blk up HF5.out)
              have HSQ := Lib.hid (HS5.out.ext up)
              have f0 := free_of_blk HFQ.out 0
              have f1 := free_of_blk HFQ.out 1
              have k0 : w7.cell? ⟨q, 0, none⟩ = some (.int .i64 0) := cell_of_blk HFQ.out 0
              have k1 : w7.cell? ⟨q, 1, none⟩ = some (.int .i64 0) := cell_of_blk HFQ.out 1
              have HUP := Lib.hid up
              clear up CP
              go_wp2_with fail
              refine bodyPost_ret (v := .tuple #[.string ⟨#[]⟩, .agg #[.int .i64 6, .int .i64 (-1)]]) (fault_res2 rfl _ _ q _ _ _ rfl rfl HFQ.out) rfl ?_
              rw [HP.out]
              exact ⟨rfl, HSQ.out.fault HFQ.out _ _, ((Upd.ext HX.out _).then ((HU1.out.thenExt HX5.out).thenExt HUP.out) (fun _ _ h => h)).then (upd_set2 _ q 0 1 _ _) (fun k hk e => by have : k = q := e; have := HQE.out; omega)⟩
  · rw [Bool.not_eq_true] at hok
    rw [hok] at CN
    have HP := Lib.hid (show x.get s = (x, ⟨#[]⟩, some (2, none)) by unfold StD.get StD.refuse; rw [hok]; rfl)
    clear hok
    go_enter Tryz.func32, Tryz.ntmps32
    go_wp2_with fail
    refine CN.mono ?_
    rintro e w1 ⟨rfl, rfl⟩
    clear CN hW hq
    have CP := plainF 2 (by decide) W
    go_wp2_with fail
    refine CP.mono ?_
    rintro e w2 ⟨rfl, up⟩
    have HFQ := Lib.hid (Ext.blk up HF.out)
    have HSQ := Lib.hid (HST.out.ext up)
    have f0 := free_of_blk HFQ.out 0
    have f1 := free_of_blk HFQ.out 1
    have k0 : w2.cell? ⟨q, 0, none⟩ = some (.int .i64 0) := cell_of_blk HFQ.out 0
    have k1 : w2.cell? ⟨q, 1, none⟩ = some (.int .i64 0) := cell_of_blk HFQ.out 1
    have HUP := Lib.hid up
    clear up CP
    go_wp2_with fail
    refine bodyPost_ret (v := .tuple #[.string ⟨#[]⟩, .agg #[.int .i64 2, .int .i64 (-1)]]) (fault_res2 rfl _ _ q _ _ _ rfl rfl HFQ.out) rfl ?_
    rw [HP.out]
    exact ⟨rfl, HSQ.out.fault HFQ.out _ _, ((Upd.ext HX.out _).then (Upd.ext HUP.out (one b)) (fun _ _ h => h)).then (upd_set2 _ q 0 1 _ _) (fun k hk e => by have : k = q := e; have := HQE.out; omega)⟩
end Go.Proofs.YtdkhnkhflbefbaaGreatDoor
