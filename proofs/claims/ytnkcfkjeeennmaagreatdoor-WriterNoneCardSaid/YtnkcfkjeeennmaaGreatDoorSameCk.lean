/- law01.SameCheckpoint of the same, without extra lines, by contract. writer.Append by contracts where it refuses, and where there is nothing to append. PRINTED by wip/tools/gen_wrn.py. -/
import Derived.Test.YtnkcfkjeeennmaaGreatDoorHEq
import Derived.Test.YtnkcfkjeeennmaaGreatDoorApE
import Derived.Test.YtnkcfkjeeennmaaGreatDoorTxt
namespace Go.Proofs.YtnkcfkjeeennmaaGreatDoor
open Go.RowKit Go.Lib


set_option maxRecDepth 20000 in
set_option maxHeartbeats 8000000 in
theorem sameCk_any (w : World) (o : List UInt8) (n : Nat) (root : HB) (hr : root.length = 32) :
    Calls Tryz.prog 13 #[ckV o n root, ckV o n root] w fun e w' => e = .returned (.bool true) ∧ Ext w w' := by
  have X0 := ((Upd.refl none' w).alloc (.cells (ckC o n root).toArray 32)).alloc (.cells (ckC o n root).toArray 32)
  have HQ0 := Lib.hid (blk_alloc_lt (blk_alloc w (.cells (ckC o n root).toArray 32)) (.cells (ckC o n root).toArray 32))
  have HQ1 : Hid (((w.alloc (.cells (ckC o n root).toArray 32)).alloc (.cells (ckC o n root).toArray 32)).heap[w.heap.size + 1]? = some (.cells (ckC o n root).toArray 32 (0, 0))) := Lib.hid (by
    have := blk_alloc (w.alloc (.cells (ckC o n root).toArray 32)) (.cells (ckC o n root).toArray 32)
    rwa [World.size_alloc] at this)
  have HX := Lib.hid X0
  have HR := Lib.hid hr
  have HS := Lib.hid (hash_size32 root hr)
  have C := sameTexts_any (w := (w.alloc (.cells (ckC o n root).toArray 32)).alloc (.cells (ckC o n root).toArray 32)) (a := none) (b := none) (l := []) (fun i s hs => by simp at hs) (fun i s hs => by simp at hs) 0 0 (by simp)
  generalize hW : (w.alloc (.cells (ckC o n root).toArray 32)).alloc (.cells (ckC o n root).toArray 32) = W at *
  have hg : ∀ g, W.heap[g]? = some (.cells (ckC o n root).toArray 32 (0, 0)) → ∀ i v, (root.map u8v)[i]? = some v → W.cell? ⟨g, 2 + i, none⟩ = some v := fun g hq i v hv => by
    rw [cell_of_blk hq, List.getElem?_toArray]
    show (Value.string (str o) :: .int .u64 n :: (root.map u8v ++ [.slice none 0 0]))[2 + i]? = some v
    rw [show 2 + i = i + 2 by omega, List.getElem?_cons_succ, List.getElem?_cons_succ, List.getElem?_append_left (List.getElem?_eq_some_iff.1 hv).1]
    exact hv
  have HG0 := Lib.hid (hg _ HQ0.out)
  have HG1 := Lib.hid (hg _ HQ1.out)
  have a0 : W.cell? ⟨w.heap.size, 0, none⟩ = some (.string (str o)) := cell_of_blk HQ0.out 0
  have a1 : W.cell? ⟨w.heap.size, 1, none⟩ = some (.int .u64 n) := cell_of_blk HQ0.out 1
  have a3 : W.cell? ⟨w.heap.size, 34, none⟩ = some (.slice none 0 0) := (cell_of_blk HQ0.out 34).trans (ck_get o n root hr)
  have b0 : W.cell? ⟨w.heap.size + 1, 0, none⟩ = some (.string (str o)) := cell_of_blk HQ1.out 0
  have b1 : W.cell? ⟨w.heap.size + 1, 1, none⟩ = some (.int .u64 n) := cell_of_blk HQ1.out 1
  have b3 : W.cell? ⟨w.heap.size + 1, 34, none⟩ = some (.slice none 0 0) := (cell_of_blk HQ1.out 34).trans (ck_get o n root hr)
  have HCM := Lib.hid (fun (w7 : World) => hash_cmp root root hr hr w7)
  clear X0 hr hg
  go_enter Tryz.func13, Tryz.ntmps13
  go_wp2_with (first
    | refine wpList_runG rfl (run_ldA _ rfl w.heap.size 2 rfl (root.map u8v) Tryz.underlying30 rfl HS.out HG0.out) ?_
    | refine wpList_runG rfl (run_ldA _ rfl (w.heap.size + 1) 2 rfl (root.map u8v) Tryz.underlying30 rfl HS.out HG1.out) ?_
    | refine wpList_runG rfl (run_eqlH _ rfl root root rfl rfl HR.out HR.out) ?_)
  refine C.mono ?_
  rintro e w1 ⟨rfl, hx⟩
  have HX1 := Lib.hid (HX.out.trans hx)
  clear C hx
  go_wp2_with fail
  go_ret
  exact ⟨rfl, HX1.out⟩

set_option maxRecDepth 20000 in
set_option maxHeartbeats 8000000 in
theorem append_none {B : Nat} {se : Nat → Addr} {w : World} (E : Env B se w) (A : Option Addr) (m c : Nat) : Calls Tryz.prog 11 #[.pointer none, .slice A m c] w fun e w' => e = .returned (.tuple #[ckV [] 0 z32B, sv se 1]) ∧ Ext w w' := by
  have X1 := ((Upd.refl none' w).alloc (.cells #[.pointer none] 26)).alloc (.cells zckA 32)
  have HA0 := Lib.hid (blk_alloc_lt (blk_alloc w (.cells #[.pointer none] 26)) (.cells zckA 32))
  have HZ0 : Hid (((w.alloc (.cells #[.pointer none] 26)).alloc (.cells zckA 32)).heap[w.heap.size + 1]? = some (.cells zckA 32 (0, 0))) := Lib.hid (by
    have := blk_alloc (w.alloc (.cells #[.pointer none] 26)) (.cells zckA 32)
    rwa [World.size_alloc] at this)
  have HX1 := Lib.hid X1
  have HE1 := Lib.hid (E.ext X1)
  have HBW := Lib.hid E.g.size
  have k0 : ((w.alloc (.cells #[.pointer none] 26)).alloc (.cells zckA 32)).cell? ⟨w.heap.size, 0, none⟩ = some (.pointer none) := cell_of_blk HA0.out 0
  clear E X1
  go_enter Tryz.func11, Tryz.ntmps11
  go_wp2_with fail
  generalize (w.alloc (.cells #[.pointer none] 26)).alloc (.cells zckA 32) = W1 at *
  have HGD : Hid (W1.drew.cell? ⟨0, 0, none⟩ = some (sv se 1)) := Lib.hid (HE1.out.g.cell 1 (by omega) (by omega))
  have HZD := Lib.hid (((Upd.refl none' W1).drew).blk HZ0.out id)
  have HU13 : Hid (Upd (one (w.heap.size + 1)) W1 (W1.drew.setRow (w.heap.size + 1) (ckC [] 0 z32B).toArray)) := Lib.hid (((Upd.refl (one (w.heap.size + 1)) W1).drew).setRow (.inr rfl) _)
  have HGD2 : Hid ((W1.drew.setRow (w.heap.size + 1) (ckC [] 0 z32B).toArray).cell? ⟨0, 0, none⟩ = some (sv se 1)) := Lib.hid (by
    rw [Upd.cell HU13.out (lt_of_cell HGD.out) (fun e => ?_)]
    · exact HGD.out
    · have e2 : 0 = w.heap.size + 1 := e
      have h2 : 0 < B := ((HE1.out.g).low 1 (by omega) (by omega)).1
      have h3 := HBW.out
      omega)
  have HQF := Lib.hid (blk_setRow HZD.out (ckC [] 0 z32B).toArray)
  have HFX : Hid (Ext w (W1.drew.setRow (w.heap.size + 1) (ckC [] 0 z32B).toArray)) := Lib.hid ((HX1.out.drew).setRow (.inl (by omega)) _)
  have HOV : Hid (over zckA.toList 0 (ckC [] 0 z32B) = ckC [] 0 z32B) := Lib.hid (over_all _ _ (by rw [ck_len _ _ _ z32B_len]; rfl))
  refine wp_region_any (by kernel_rfl) ?_
  refine any_seqM (t := 0) 2 (W1.drew.setRow (w.heap.size + 1) (ckC [] 0 z32B).toArray) [0, 1, 2, 3] [_, _, _, _] (by kernel_rfl) rfl (by kernel_rfl) (by kernel_rfl) (by kernel_rfl) (by kernel_rfl) ?_
  simp only [List.getElem_toArray, List.getElem_cons_succ, List.getElem_cons_zero]
  refine m_read (v := .agg (ckC [] 0 z32B).toArray) rfl (by decide) (exec_build _ [] rfl [] _ rfl (run_zck _)) (exec_build _ [] rfl [] _ rfl (run_zck _)) ?_
  refine m_norm (by go_simp; exact rfl) ?_
  refine m_read (v := sv se 1) rfl (by decide) (run_ld1 _ rfl ⟨0, 0, none⟩ _ rfl Tryz.underlying38 rfl HGD.out) (run_ld1 _ rfl ⟨0, 0, none⟩ _ rfl Tryz.underlying38 rfl HGD2.out) ?_
  refine m_norm (by go_simp; exact rfl) ?_
  refine m_store rfl ((run_storeAggAt 32 _ _ rfl (w.heap.size + 1) 0 rfl (ckC [] 0 z32B) rfl ckz_size zckA.toList 32 HZD.out (by rw [ck_len _ _ _ z32B_len]; exact Nat.le_refl _) (ck_one _ _ _)).trans (by rw [HOV.out])) ?_
  refine m_norm (by go_simp; exact rfl) ?_
  refine m_read (v := sv se 1) rfl (by decide) (by go_simp) (by go_simp) ?_
  refine m_norm (by go_simp; exact rfl) ?_
  refine m_nil ?_
  refine wpAny_done (by kernel_rfl) ?_ _
  go_wp2_with fail
  have hsz : (Tryz.prog.info? 32).map (·.size) = some (ckC [] 0 z32B).toArray.size := ckz_size
  exact bodyPost_ret (v := .tuple #[.agg (ckC [] 0 z32B).toArray, sv se 1]) (results_cell_twoV rfl _ _ (w.heap.size + 1) 32 _ (0, 0) _ (sv se 1) rfl rfl HQF.out Tryz.underlying32 rfl hsz) rfl ⟨rfl, HFX.out⟩
set_option maxRecDepth 20000 in
set_option maxHeartbeats 8000000 in
theorem append_zero {B wb : Nat} {se : Nat → Addr} {w : World} {o : List UInt8} {n : Nat} {root : HB} {ev : Value} {ended : Bool} (E : Env B se w) (HW : WrAt w wb (.pointer none) o n root ev ended) (A : Option Addr) (m c : Nat) : Calls Tryz.prog 11 #[.pointer (some ⟨wb, 0, none⟩), .slice A m c] w fun e w' => e = .returned (.tuple #[ckV [] 0 z32B, sv se 1]) ∧ Ext w w' := by
  have X1 := ((Upd.refl none' w).alloc (.cells #[.pointer (some ⟨wb, 0, none⟩)] 26)).alloc (.cells zckA 32)
  have HA0 := Lib.hid (blk_alloc_lt (blk_alloc w (.cells #[.pointer (some ⟨wb, 0, none⟩)] 26)) (.cells zckA 32))
  have HZ0 : Hid (((w.alloc (.cells #[.pointer (some ⟨wb, 0, none⟩)] 26)).alloc (.cells zckA 32)).heap[w.heap.size + 1]? = some (.cells zckA 32 (0, 0))) := Lib.hid (by
    have := blk_alloc (w.alloc (.cells #[.pointer (some ⟨wb, 0, none⟩)] 26)) (.cells zckA 32)
    rwa [World.size_alloc] at this)
  have HX1 := Lib.hid X1
  have HE1 := Lib.hid (E.ext X1)
  have HBW := Lib.hid E.g.size
  have k0 : ((w.alloc (.cells #[.pointer (some ⟨wb, 0, none⟩)] 26)).alloc (.cells zckA 32)).cell? ⟨w.heap.size, 0, none⟩ = some (.pointer (some ⟨wb, 0, none⟩)) := cell_of_blk HA0.out 0
  have k1 := (HW.ext X1).c0
  clear E X1 HW
  go_enter Tryz.func11, Tryz.ntmps11
  go_wp2_with fail
  generalize (w.alloc (.cells #[.pointer (some ⟨wb, 0, none⟩)] 26)).alloc (.cells zckA 32) = W1 at *
  have HGD : Hid (W1.drew.cell? ⟨0, 0, none⟩ = some (sv se 1)) := Lib.hid (HE1.out.g.cell 1 (by omega) (by omega))
  have HZD := Lib.hid (((Upd.refl none' W1).drew).blk HZ0.out id)
  have HU13 : Hid (Upd (one (w.heap.size + 1)) W1 (W1.drew.setRow (w.heap.size + 1) (ckC [] 0 z32B).toArray)) := Lib.hid (((Upd.refl (one (w.heap.size + 1)) W1).drew).setRow (.inr rfl) _)
  have HGD2 : Hid ((W1.drew.setRow (w.heap.size + 1) (ckC [] 0 z32B).toArray).cell? ⟨0, 0, none⟩ = some (sv se 1)) := Lib.hid (by
    rw [Upd.cell HU13.out (lt_of_cell HGD.out) (fun e => ?_)]
    · exact HGD.out
    · have e2 : 0 = w.heap.size + 1 := e
      have h2 : 0 < B := ((HE1.out.g).low 1 (by omega) (by omega)).1
      have h3 := HBW.out
      omega)
  have HQF := Lib.hid (blk_setRow HZD.out (ckC [] 0 z32B).toArray)
  have HFX : Hid (Ext w (W1.drew.setRow (w.heap.size + 1) (ckC [] 0 z32B).toArray)) := Lib.hid ((HX1.out.drew).setRow (.inl (by omega)) _)
  have HOV : Hid (over zckA.toList 0 (ckC [] 0 z32B) = ckC [] 0 z32B) := Lib.hid (over_all _ _ (by rw [ck_len _ _ _ z32B_len]; rfl))
  refine wp_region_any (by kernel_rfl) ?_
  refine any_seqM (t := 0) 2 (W1.drew.setRow (w.heap.size + 1) (ckC [] 0 z32B).toArray) [0, 1, 2, 3] [_, _, _, _] (by kernel_rfl) rfl (by kernel_rfl) (by kernel_rfl) (by kernel_rfl) (by kernel_rfl) ?_
  simp only [List.getElem_toArray, List.getElem_cons_succ, List.getElem_cons_zero]
  refine m_read (v := .agg (ckC [] 0 z32B).toArray) rfl (by decide) (exec_build _ [] rfl [] _ rfl (run_zck _)) (exec_build _ [] rfl [] _ rfl (run_zck _)) ?_
  refine m_norm (by go_simp; exact rfl) ?_
  refine m_read (v := sv se 1) rfl (by decide) (run_ld1 _ rfl ⟨0, 0, none⟩ _ rfl Tryz.underlying38 rfl HGD.out) (run_ld1 _ rfl ⟨0, 0, none⟩ _ rfl Tryz.underlying38 rfl HGD2.out) ?_
  refine m_norm (by go_simp; exact rfl) ?_
  refine m_store rfl ((run_storeAggAt 32 _ _ rfl (w.heap.size + 1) 0 rfl (ckC [] 0 z32B) rfl ckz_size zckA.toList 32 HZD.out (by rw [ck_len _ _ _ z32B_len]; exact Nat.le_refl _) (ck_one _ _ _)).trans (by rw [HOV.out])) ?_
  refine m_norm (by go_simp; exact rfl) ?_
  refine m_read (v := sv se 1) rfl (by decide) (by go_simp) (by go_simp) ?_
  refine m_norm (by go_simp; exact rfl) ?_
  refine m_nil ?_
  refine wpAny_done (by kernel_rfl) ?_ _
  go_wp2_with fail
  have hsz : (Tryz.prog.info? 32).map (·.size) = some (ckC [] 0 z32B).toArray.size := ckz_size
  exact bodyPost_ret (v := .tuple #[.agg (ckC [] 0 z32B).toArray, sv se 1]) (results_cell_twoV rfl _ _ (w.heap.size + 1) 32 _ (0, 0) _ (sv se 1) rfl rfl HQF.out Tryz.underlying32 rfl hsz) rfl ⟨rfl, HFX.out⟩
set_option maxRecDepth 20000 in
set_option maxHeartbeats 8000000 in
theorem append_dead {B wb b : Nat} {se : Nat → Addr} {w : World} {o : List UInt8} {n : Nat} {root : HB} {ev : Value} (E : Env B se w) (HW : WrAt w wb (.pointer (some ⟨b, 0, none⟩)) o n root ev true) (hr : root.length = 32) (A : Option Addr) (m c : Nat) : Calls Tryz.prog 11 #[.pointer (some ⟨wb, 0, none⟩), .slice A m c] w fun e w' => e = .returned (.tuple #[ckV [] 0 z32B, sv se 8]) ∧ Ext w w' := by
  have X1 := ((Upd.refl none' w).alloc (.cells #[.pointer (some ⟨wb, 0, none⟩)] 26)).alloc (.cells zckA 32)
  have HA0 := Lib.hid (blk_alloc_lt (blk_alloc w (.cells #[.pointer (some ⟨wb, 0, none⟩)] 26)) (.cells zckA 32))
  have HZ0 : Hid (((w.alloc (.cells #[.pointer (some ⟨wb, 0, none⟩)] 26)).alloc (.cells zckA 32)).heap[w.heap.size + 1]? = some (.cells zckA 32 (0, 0))) := Lib.hid (by
    have := blk_alloc (w.alloc (.cells #[.pointer (some ⟨wb, 0, none⟩)] 26)) (.cells zckA 32)
    rwa [World.size_alloc] at this)
  have HX1 := Lib.hid X1
  have HE1 := Lib.hid (E.ext X1)
  have HBW := Lib.hid E.g.size
  have k0 : ((w.alloc (.cells #[.pointer (some ⟨wb, 0, none⟩)] 26)).alloc (.cells zckA 32)).cell? ⟨w.heap.size, 0, none⟩ = some (.pointer (some ⟨wb, 0, none⟩)) := cell_of_blk HA0.out 0
  have k1 := (HW.ext X1).c0
  have k2 := (HW.ext X1).c37 hr
  clear E X1 HW
  go_enter Tryz.func11, Tryz.ntmps11
  go_wp2_with fail
  generalize (w.alloc (.cells #[.pointer (some ⟨wb, 0, none⟩)] 26)).alloc (.cells zckA 32) = W1 at *
  have HGD : Hid (W1.drew.cell? ⟨1, 0, none⟩ = some (sv se 8)) := Lib.hid (HE1.out.g.cell 8 (by omega) (by omega))
  have HZD := Lib.hid (((Upd.refl none' W1).drew).blk HZ0.out id)
  have HU13 : Hid (Upd (one (w.heap.size + 1)) W1 (W1.drew.setRow (w.heap.size + 1) (ckC [] 0 z32B).toArray)) := Lib.hid (((Upd.refl (one (w.heap.size + 1)) W1).drew).setRow (.inr rfl) _)
  have HGD2 : Hid ((W1.drew.setRow (w.heap.size + 1) (ckC [] 0 z32B).toArray).cell? ⟨1, 0, none⟩ = some (sv se 8)) := Lib.hid (by
    rw [Upd.cell HU13.out (lt_of_cell HGD.out) (fun e => ?_)]
    · exact HGD.out
    · have e2 : 1 = w.heap.size + 1 := e
      have h2 : 1 < B := ((HE1.out.g).low 8 (by omega) (by omega)).1
      have h3 := HBW.out
      omega)
  have HQF := Lib.hid (blk_setRow HZD.out (ckC [] 0 z32B).toArray)
  have HFX : Hid (Ext w (W1.drew.setRow (w.heap.size + 1) (ckC [] 0 z32B).toArray)) := Lib.hid ((HX1.out.drew).setRow (.inl (by omega)) _)
  have HOV : Hid (over zckA.toList 0 (ckC [] 0 z32B) = ckC [] 0 z32B) := Lib.hid (over_all _ _ (by rw [ck_len _ _ _ z32B_len]; rfl))
  refine wp_region_any (by kernel_rfl) ?_
  refine any_seqM (t := 0) 2 (W1.drew.setRow (w.heap.size + 1) (ckC [] 0 z32B).toArray) [0, 1, 2, 3] [_, _, _, _] (by kernel_rfl) rfl (by kernel_rfl) (by kernel_rfl) (by kernel_rfl) (by kernel_rfl) ?_
  simp only [List.getElem_toArray, List.getElem_cons_succ, List.getElem_cons_zero]
  refine m_read (v := .agg (ckC [] 0 z32B).toArray) rfl (by decide) (exec_build _ [] rfl [] _ rfl (run_zck _)) (exec_build _ [] rfl [] _ rfl (run_zck _)) ?_
  refine m_norm (by go_simp; exact rfl) ?_
  refine m_read (v := sv se 8) rfl (by decide) (run_ld1 _ rfl ⟨1, 0, none⟩ _ rfl Tryz.underlying38 rfl HGD.out) (run_ld1 _ rfl ⟨1, 0, none⟩ _ rfl Tryz.underlying38 rfl HGD2.out) ?_
  refine m_norm (by go_simp; exact rfl) ?_
  refine m_store rfl ((run_storeAggAt 32 _ _ rfl (w.heap.size + 1) 0 rfl (ckC [] 0 z32B) rfl ckz_size zckA.toList 32 HZD.out (by rw [ck_len _ _ _ z32B_len]; exact Nat.le_refl _) (ck_one _ _ _)).trans (by rw [HOV.out])) ?_
  refine m_norm (by go_simp; exact rfl) ?_
  refine m_read (v := sv se 8) rfl (by decide) (by go_simp) (by go_simp) ?_
  refine m_norm (by go_simp; exact rfl) ?_
  refine m_nil ?_
  refine wpAny_done (by kernel_rfl) ?_ _
  go_wp2_with fail
  have hsz : (Tryz.prog.info? 32).map (·.size) = some (ckC [] 0 z32B).toArray.size := ckz_size
  exact bodyPost_ret (v := .tuple #[.agg (ckC [] 0 z32B).toArray, sv se 8]) (results_cell_twoV rfl _ _ (w.heap.size + 1) 32 _ (0, 0) _ (sv se 8) rfl rfl HQF.out Tryz.underlying32 rfl hsz) rfl ⟨rfl, HFX.out⟩
set_option maxRecDepth 20000 in
set_option maxHeartbeats 8000000 in
theorem append_long {B wb b : Nat} {se : Nat → Addr} {w : World} {o : List UInt8} {n : Nat} {root : HB} {ev : Value} (E : Env B se w) (HW : WrAt w wb (.pointer (some ⟨b, 0, none⟩)) o n root ev false) (hr : root.length = 32) (hn : n ≤ 1048576) (A : Option Addr) (ls : List (List UInt8)) (c : Nat) (hc : CellsAt w A (strC ls)) (hA : A = none ∨ ∃ g o, A = some ⟨g, o, none⟩) (hl : ls.length ≤ 65536)
    (hlong : (decide (4096 < ls.length) || decide (1048576 < n + ls.length) || ls.any longS) = true) : Calls Tryz.prog 11 #[.pointer (some ⟨wb, 0, none⟩), .slice A ls.length c] w fun e w' => e = .returned (.tuple #[ckV [] 0 z32B, sv se 4]) ∧ Ext w w' := by
  have X1 := ((Upd.refl none' w).alloc (.cells #[.pointer (some ⟨wb, 0, none⟩)] 26)).alloc (.cells zckA 32)
  have HA0 := Lib.hid (blk_alloc_lt (blk_alloc w (.cells #[.pointer (some ⟨wb, 0, none⟩)] 26)) (.cells zckA 32))
  have HZ0 : Hid (((w.alloc (.cells #[.pointer (some ⟨wb, 0, none⟩)] 26)).alloc (.cells zckA 32)).heap[w.heap.size + 1]? = some (.cells zckA 32 (0, 0))) := Lib.hid (by
    have := blk_alloc (w.alloc (.cells #[.pointer (some ⟨wb, 0, none⟩)] 26)) (.cells zckA 32)
    rwa [World.size_alloc] at this)
  have HX1 := Lib.hid X1
  have HE1 := Lib.hid (E.ext X1)
  have HBW := Lib.hid E.g.size
  have k0 : ((w.alloc (.cells #[.pointer (some ⟨wb, 0, none⟩)] 26)).alloc (.cells zckA 32)).cell? ⟨w.heap.size, 0, none⟩ = some (.pointer (some ⟨wb, 0, none⟩)) := cell_of_blk HA0.out 0
  have k1 := (HW.ext X1).c0
  have k2 := (HW.ext X1).c37 hr
  have CL := long_any (HW.ext X1) hn A ls c (hc.ext X1) hA hl
  rw [hlong] at CL
  generalize ls.length = m at *
  clear E X1 HW hlong hc hA hl hn
  go_enter Tryz.func11, Tryz.ntmps11
  go_wp2_with fail
  refine CL.mono ?_
  rintro e w1 ⟨rfl, hw1⟩
  clear CL
  generalize hW : (w.alloc (.cells #[.pointer (some ⟨wb, 0, none⟩)] 26)).alloc (.cells zckA 32) = W1 at *
  subst hw1
  clear hW
  go_wp2_with fail
  have HGD : Hid (W1.drew.cell? ⟨2, 0, none⟩ = some (sv se 4)) := Lib.hid (HE1.out.g.cell 4 (by omega) (by omega))
  have HZD := Lib.hid (((Upd.refl none' W1).drew).blk HZ0.out id)
  have HU13 : Hid (Upd (one (w.heap.size + 1)) W1 (W1.drew.setRow (w.heap.size + 1) (ckC [] 0 z32B).toArray)) := Lib.hid (((Upd.refl (one (w.heap.size + 1)) W1).drew).setRow (.inr rfl) _)
  have HGD2 : Hid ((W1.drew.setRow (w.heap.size + 1) (ckC [] 0 z32B).toArray).cell? ⟨2, 0, none⟩ = some (sv se 4)) := Lib.hid (by
    rw [Upd.cell HU13.out (lt_of_cell HGD.out) (fun e => ?_)]
    · exact HGD.out
    · have e2 : 2 = w.heap.size + 1 := e
      have h2 : 2 < B := ((HE1.out.g).low 4 (by omega) (by omega)).1
      have h3 := HBW.out
      omega)
  have HQF := Lib.hid (blk_setRow HZD.out (ckC [] 0 z32B).toArray)
  have HFX : Hid (Ext w (W1.drew.setRow (w.heap.size + 1) (ckC [] 0 z32B).toArray)) := Lib.hid ((HX1.out.drew).setRow (.inl (by omega)) _)
  have HOV : Hid (over zckA.toList 0 (ckC [] 0 z32B) = ckC [] 0 z32B) := Lib.hid (over_all _ _ (by rw [ck_len _ _ _ z32B_len]; rfl))
  refine wp_region_any (by kernel_rfl) ?_
  refine any_seqM (t := 0) 2 (W1.drew.setRow (w.heap.size + 1) (ckC [] 0 z32B).toArray) [0, 1, 2, 3] [_, _, _, _] (by kernel_rfl) rfl (by kernel_rfl) (by kernel_rfl) (by kernel_rfl) (by kernel_rfl) ?_
  simp only [List.getElem_toArray, List.getElem_cons_succ, List.getElem_cons_zero]
  refine m_read (v := .agg (ckC [] 0 z32B).toArray) rfl (by decide) (exec_build _ [] rfl [] _ rfl (run_zck _)) (exec_build _ [] rfl [] _ rfl (run_zck _)) ?_
  refine m_norm (by go_simp; exact rfl) ?_
  refine m_read (v := sv se 4) rfl (by decide) (run_ld1 _ rfl ⟨2, 0, none⟩ _ rfl Tryz.underlying38 rfl HGD.out) (run_ld1 _ rfl ⟨2, 0, none⟩ _ rfl Tryz.underlying38 rfl HGD2.out) ?_
  refine m_norm (by go_simp; exact rfl) ?_
  refine m_store rfl ((run_storeAggAt 32 _ _ rfl (w.heap.size + 1) 0 rfl (ckC [] 0 z32B) rfl ckz_size zckA.toList 32 HZD.out (by rw [ck_len _ _ _ z32B_len]; exact Nat.le_refl _) (ck_one _ _ _)).trans (by rw [HOV.out])) ?_
  refine m_norm (by go_simp; exact rfl) ?_
  refine m_read (v := sv se 4) rfl (by decide) (by go_simp) (by go_simp) ?_
  refine m_norm (by go_simp; exact rfl) ?_
  refine m_nil ?_
  refine wpAny_done (by kernel_rfl) ?_ _
  go_wp2_with fail
  have hsz : (Tryz.prog.info? 32).map (·.size) = some (ckC [] 0 z32B).toArray.size := ckz_size
  exact bodyPost_ret (v := .tuple #[.agg (ckC [] 0 z32B).toArray, sv se 4]) (results_cell_twoV rfl _ _ (w.heap.size + 1) 32 _ (0, 0) _ (sv se 4) rfl rfl HQF.out Tryz.underlying32 rfl hsz) rfl ⟨rfl, HFX.out⟩
set_option maxRecDepth 20000 in
set_option maxHeartbeats 8000000 in
theorem append_empty {B wb b : Nat} {se : Nat → Addr} {w : World} {o : List UInt8} {n : Nat} {root : HB} {ev : Value} (E : Env B se w) (HW : WrAt w wb (.pointer (some ⟨b, 0, none⟩)) o n root ev false) (hr : root.length = 32) (hn : n ≤ 1048576) (A : Option Addr) (c : Nat) (hA : A = none ∨ ∃ g o, A = some ⟨g, o, none⟩) : Calls Tryz.prog 11 #[.pointer (some ⟨wb, 0, none⟩), .slice A 0 c] w fun e w' => e = .returned (.tuple #[ckV o n root, .nilIface]) ∧ Ext w w' := by
  have X1 := ((Upd.refl none' w).alloc (.cells #[.pointer (some ⟨wb, 0, none⟩)] 26)).alloc (.cells zckA 32)
  have HA0 := Lib.hid (blk_alloc_lt (blk_alloc w (.cells #[.pointer (some ⟨wb, 0, none⟩)] 26)) (.cells zckA 32))
  have HZ0 : Hid (((w.alloc (.cells #[.pointer (some ⟨wb, 0, none⟩)] 26)).alloc (.cells zckA 32)).heap[w.heap.size + 1]? = some (.cells zckA 32 (0, 0))) := Lib.hid (by
    have := blk_alloc (w.alloc (.cells #[.pointer (some ⟨wb, 0, none⟩)] 26)) (.cells zckA 32)
    rwa [World.size_alloc] at this)
  have HX1 := Lib.hid X1
  have HE1 := Lib.hid (E.ext X1)
  have HBW := Lib.hid E.g.size
  have k0 : ((w.alloc (.cells #[.pointer (some ⟨wb, 0, none⟩)] 26)).alloc (.cells zckA 32)).cell? ⟨w.heap.size, 0, none⟩ = some (.pointer (some ⟨wb, 0, none⟩)) := cell_of_blk HA0.out 0
  have k1 := (HW.ext X1).c0
  have k2 := (HW.ext X1).c37 hr
  have CL := long_any (HW.ext X1) hn A [] c (fun j v hv => by simp at hv) hA (by simp)
  rw [show (decide (4096 < ([] : List (List UInt8)).length) || decide (1048576 < n + ([] : List (List UInt8)).length) || ([] : List (List UInt8)).any longS) = false by simp; omega] at CL
  have HCK := Lib.hid (HW.ext X1).ck
  have HS := Lib.hid (ck_size o n root hr)
  have HOV : Hid (over zckA.toList 0 (ckC o n root) = ckC o n root) := Lib.hid (over_all _ _ (by rw [ck_len _ _ _ hr]; rfl))
  have HLN := Lib.hid (ck_len o n root hr)
  clear E X1 HW hn hA hr
  go_enter Tryz.func11, Tryz.ntmps11
  go_wp2_with fail
  refine CL.mono ?_
  rintro e w1 ⟨rfl, hw1⟩
  clear CL
  generalize hW : (w.alloc (.cells #[.pointer (some ⟨wb, 0, none⟩)] 26)).alloc (.cells zckA 32) = W1 at *
  subst hw1
  clear hW
  go_wp2_with (first
    | refine wpList_loadAgg rfl 32 _ rfl wb 1 rfl (ckC o n root) Tryz.underlying32 rfl HS.out HCK.out ?_
    | refine wpList_storeAgg rfl 32 _ _ rfl (w.heap.size + 1) 0 rfl (ckC o n root) rfl HS.out zckA.toList 32 HZ0.out (by rw [HLN.out]; exact Nat.le_refl _) (ck_one _ _ _) ?_)
  rw [show over _ 0 (ckC o n root) = ckC o n root from HOV.out]
  have HQF := Lib.hid (blk_setRow HZ0.out (ckC o n root).toArray)
  have hsz : (Tryz.prog.info? 32).map (·.size) = some (ckC o n root).toArray.size := HS.out
  exact bodyPost_ret (v := .tuple #[ckV o n root, .nilIface]) (results_cell_twoV rfl _ _ (w.heap.size + 1) 32 _ (0, 0) _ .nilIface rfl rfl HQF.out Tryz.underlying32 rfl hsz) rfl ⟨rfl, HX1.out.setRow (.inl (by omega)) _⟩
end Go.Proofs.YtnkcfkjeeennmaaGreatDoor
