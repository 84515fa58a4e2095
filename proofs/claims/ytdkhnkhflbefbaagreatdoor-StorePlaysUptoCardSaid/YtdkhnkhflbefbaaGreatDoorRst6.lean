/- The document's store by contracts: Names. PRINTED by wip/tools/gen_rst6.py. -/
import Derived.Test.YtdkhnkhflbefbaaGreatDoorRst3
import Derived.Sort.Walk0
namespace Go.Proofs.YtdkhnkhflbefbaaGreatDoor
open Go.RowKit Go.Lib Go.Sort

def posR (x : List UInt8) : List (List UInt8) → Nat
  | [] => 0
  | a :: l => if a < x then posR x l + 1 else 0
def insR (x : List UInt8) (l : List (List UInt8)) : List (List UInt8) := l.take (posR x l) ++ x :: l.drop (posR x l)
def insAll (L : TxtL) : List (List UInt8) := L.foldl (fun l p => insR p.1.data.toList l) []
theorem posR_le (x : List UInt8) : ∀ l, posR x l ≤ l.length
  | [] => Nat.le_refl _
  | a :: l => by
    have ih := posR_le x l
    unfold posR
    split <;> simp <;> omega
theorem posR_is (x : List UInt8) : ∀ (l : List (List UInt8)) (k : Nat), k ≤ l.length → (∀ (j : Nat) (h : j < l.length), j < k → l[j] < x) → (∀ h : k < l.length, ¬ l[k] < x) → posR x l = k
  | [], k, hk, _, _ => by
    have : k = 0 := by simpa using hk
    subst this; rfl
  | a :: l, 0, _, _, h2 => by
    unfold posR
    exact if_neg (h2 (by simp))
  | a :: l, k + 1, hk, h1, h2 => by
    have ih := posR_is x l k (by simpa using hk) (fun j h hj => by have := h1 (j + 1) (by simpa using h) (by omega); simpa using this) (fun h => by have := h2 (by simpa using h); simpa using this)
    unfold posR
    rw [if_pos (show a < x from h1 0 (by simp) (by omega)), ih]
theorem insR_len (x : List UInt8) (l : List (List UInt8)) : (insR x l).length = l.length + 1 := by
  have := posR_le x l
  unfold insR
  simp
  omega
theorem insR_perm (x : List UInt8) (l : List (List UInt8)) : (insR x l).Perm (x :: l) := by
  unfold insR
  have h := List.perm_middle (a := x) (l₁ := l.take (posR x l)) (l₂ := l.drop (posR x l))
  rw [List.take_append_drop] at h
  exact h
theorem leB_lt {a b : List UInt8} (h : a < b) : leB a b = true := by
  simp only [leB, decide_eq_true_eq]; exact List.le_of_lt h
theorem leB_not {a b : List UInt8} (h : ¬ a < b) : leB b a = true := by
  simp only [leB, decide_eq_true_eq]; exact List.not_lt.1 h
theorem leB_tr : ∀ a b c : List UInt8, leB a b = true → leB b c = true → leB a c = true := fun a b c h1 h2 => by
  simp only [leB, decide_eq_true_eq] at *; exact List.le_trans h1 h2
theorem insR_cons (x a : List UInt8) (l : List (List UInt8)) : insR x (a :: l) = if a < x then a :: insR x l else x :: a :: l := by
  unfold insR
  rw [show posR x (a :: l) = if a < x then posR x l + 1 else 0 from rfl]
  split <;> rfl
theorem insR_sorted (x : List UInt8) : ∀ l : List (List UInt8), l.Pairwise (fun a b => leB a b = true) → (insR x l).Pairwise (fun a b => leB a b = true)
  | [], _ => by simp [insR, posR]
  | a :: l, h => by
    have h1 := List.pairwise_cons.1 h
    have ih := insR_sorted x l h1.2
    rw [insR_cons]
    split
    · rename_i hlt
      refine List.pairwise_cons.2 ⟨fun b hb => ?_, ih⟩
      rcases List.mem_cons.1 ((insR_perm x l).mem_iff.1 hb) with rfl | hb
      · exact leB_lt hlt
      · exact h1.1 b hb
    · rename_i hlt
      refine List.pairwise_cons.2 ⟨fun b hb => ?_, h⟩
      rcases List.mem_cons.1 hb with rfl | hb
      · exact leB_not hlt
      · exact leB_tr _ _ _ (leB_not hlt) (h1.1 b hb)
theorem insFold_sorted : ∀ (L : TxtL) (l : List (List UInt8)), l.Pairwise (fun a b => leB a b = true) → (L.foldl (fun l p => insR p.1.data.toList l) l).Pairwise (fun a b => leB a b = true)
  | [], l, h => h
  | p :: L, l, h => insFold_sorted L _ (insR_sorted _ l h)
theorem insFold_perm : ∀ (L : TxtL) (l : List (List UInt8)), (L.foldl (fun l p => insR p.1.data.toList l) l).Perm (L.map (fun p => p.1.data.toList) ++ l)
  | [], l => List.Perm.refl _
  | p :: L, l => by
    have ih := insFold_perm L (insR p.1.data.toList l)
    refine ih.trans ?_
    have h := (insR_perm p.1.data.toList l).append_left (L.map fun p => p.1.data.toList)
    refine h.trans ?_
    rw [List.map_cons, List.cons_append]
    exact List.perm_middle
theorem insAll_names (L : TxtL) : insAll L = namesL L := by
  have hs : (insAll L).Pairwise (fun a b => leB a b = true) := insFold_sorted L [] List.Pairwise.nil
  have hp : (insAll L).Perm (L.map fun p => p.1.data.toList) := by
    have h := insFold_perm L []
    rw [List.append_nil] at h
    exact h
  unfold namesL
  rw [← mergeSort_of_perm hp]
  exact (List.mergeSort_of_pairwise hs).symm
theorem insAll_snoc (L : TxtL) (i : Nat) (h : i < L.length) : insAll (L.take (i + 1)) = insR L[i].1.data.toList (insAll (L.take i)) := by
  unfold insAll
  rw [List.take_succ_eq_append_getElem h, List.foldl_append]; rfl
theorem insFold_len : ∀ (L : TxtL) (l : List (List UInt8)), (L.foldl (fun l p => insR p.1.data.toList l) l).length = L.length + l.length
  | [], l => by simp
  | p :: L, l => by
    have ih := insFold_len L (insR p.1.data.toList l)
    rw [List.foldl_cons, ih, insR_len]; simp; omega
theorem insAll_len (L : TxtL) : (insAll L).length = L.length := by
  have := insFold_len L []
  simpa [insAll] using this
theorem cells_enc {w : World} {B : Nat} {g c n : Nat} {l : List (List UInt8)} (h : w.ownsRow B 9 1 (.slice (some ⟨g, 0, none⟩) n c) n (l.map encStr)) (k : Nat) (hk : k < l.length) : w.cell? ⟨g, k, none⟩ = some (encStr l[k]) := by
  have ea : ∀ j, (⟨g, 0, none⟩ : Addr).add j = ⟨g, j, none⟩ := fun j => by unfold Addr.add; split <;> simp_all
  have h0 := h.cells (g := g) rfl k (encStr l[k]) (by rw [List.getElem?_map, List.getElem?_eq_getElem hk]; rfl)
  rw [ea] at h0; exact h0
theorem cellsAt_take {w : World} {B : Nat} {g c n : Nat} {l : List (List UInt8)} (h : w.ownsRow B 9 1 (.slice (some ⟨g, 0, none⟩) n c) n (l.map encStr)) (k : Nat) : CellsAt w (some ⟨g, 0, none⟩) ((l.take k).map encStr) := fun j u hu => by
  rw [List.getElem?_map] at hu
  cases hx : (l.take k)[j]? with
  | none => rw [hx] at hu; cases hu
  | some x =>
    rw [hx] at hu
    obtain rfl := Option.some.inj hu
    obtain ⟨hj, hx2⟩ := List.getElem?_eq_some_iff.1 hx
    rw [List.getElem_take] at hx2
    rw [List.length_take] at hj
    have ea : (⟨g, 0, none⟩ : Addr).add j = ⟨g, j, none⟩ := by unfold Addr.add; split <;> simp_all
    exact ⟨_, rfl, by rw [ea, cells_enc h j (by omega), hx2]⟩
theorem cellsAt_drop {w : World} {B : Nat} {g c n : Nat} {l : List (List UInt8)} (h : w.ownsRow B 9 1 (.slice (some ⟨g, 0, none⟩) n c) n (l.map encStr)) (k : Nat) : CellsAt w (some ⟨g, k, none⟩) ((l.drop k).map encStr) := fun j u hu => by
  rw [List.getElem?_map, List.getElem?_drop] at hu
  cases hx : l[k + j]? with
  | none => rw [hx] at hu; cases hu
  | some x =>
    rw [hx] at hu
    obtain rfl := Option.some.inj hu
    obtain ⟨hj, hx2⟩ := List.getElem?_eq_some_iff.1 hx
    have ea : (⟨g, k, none⟩ : Addr).add j = ⟨g, k + j, none⟩ := by unfold Addr.add; split <;> simp_all
    exact ⟨_, rfl, by rw [ea, cells_enc h (k + j) hj, hx2]⟩
theorem enc_ones (l : List (List UInt8)) : ∀ u ∈ l.map encStr, u.oneCell' = true := fun u hu => by
  obtain ⟨x, _, rfl⟩ := List.mem_map.1 hu; rfl
def RnRel (L : TxtL) (w : World) (lv iv : Value) (wr : World) : Prop :=
  ∃ i : Nat, iv = .int .i64 i ∧ i ≤ L.length ∧ wr.ownsRow w.heap.size 9 1 lv i ((insAll (L.take i)).map encStr) ∧ Ext w wr
def RkRel (x : List UInt8) (l : List (List UInt8)) (w : World) (kv : Value) (wr : World) : Prop :=
  ∃ k : Nat, kv = .int .i64 k ∧ k ≤ l.length ∧ (∀ (j : Nat) (h : j < l.length), j < k → l[j] < x) ∧ Ext w wr
theorem str_new (w : World) (s : ByteArray) : CellsAt (w.alloc (.cells #[.string s] 9)) (some ⟨w.heap.size, 0, none⟩) [.string s] := fun j u hu => by
  have ea : (⟨w.heap.size, 0, none⟩ : Addr).add j = ⟨w.heap.size, j, none⟩ := by unfold Addr.add; split <;> simp_all
  refine ⟨_, rfl, ?_⟩
  rw [ea, cell_of_blk (blk_alloc w _)]
  simpa using hu
theorem enc_is (s : ByteArray) : encStr s.data.toList = .string s := by simp [encStr]

set_option maxRecDepth 20000 in
set_option maxHeartbeats 32000000 in
theorem rnames_any {B b : Nat} {av tv : Value} {x : StD} {w : World} (H : RStAt B w b av tv x) (hL : x.texts.length ≤ 4194304) :
    Calls Tryz.prog 36 #[.pointer (some ⟨b, 0, none⟩)] w fun e w' => ∃ A cap, e = .returned (.slice A x.texts.length cap) ∧ w'.ownsRow w.heap.size 9 1 (.slice A x.texts.length cap) x.texts.length ((namesL x.texts).map encStr) ∧ Ext w w' := by
  obtain ⟨j0, hj0, hjz0, hjz1, hjz2⟩ := info_parts info_str
  obtain ⟨TA, tc, rfl⟩ := own_sl H.all
  have HH := Lib.hid H
  have HL := Lib.hid hL
  clear H
  generalize htl : x.texts.length = tl at *
  have HTLE := Lib.hid htl
  clear htl
  go_enter Tryz.func36, Tryz.ntmps36
  go_wp2_with fail
  go_loopw [3, 4] (fun lv iv wr => RnRel x.texts w lv iv wr) (fun _ iv _ => tl - (RowKit.intOf iv).toNat)
  case atStart => exact ⟨0, rfl, Nat.zero_le _, ⟨rfl, .inl ⟨rfl, rfl⟩⟩, Upd.refl _ _⟩
  case round =>
    obtain ⟨i, rfl, hi, hrow, hX⟩ := hrel
    rw [HTLE.out] at hi
    have HX := Lib.hid hX
    have HS := Lib.hid (HH.out.ext hX)
    obtain ⟨A, c, rfl⟩ := own_sl hrow
    have HROW := Lib.hid hrow
    have HLEN := Lib.hid (show (insAll (x.texts.take i)).length = i by rw [insAll_len, List.length_take, HTLE.out]; omega)
    have c0 : wr.cell? ⟨b, 0, none⟩ = some (.slice TA tl tc) := cell_of_blk HS.out.blk 0
    clear hrow hX
    by_cases hlt : i < tl
    · have hii : (i : Int) < tl := by omega
      have hib : i < 4194304 := by have := HL.out; omega
      have hil : i < x.texts.length := by rw [HTLE.out]; exact hlt
      have HSN := Lib.hid (insAll_snoc x.texts i hil)
      obtain ⟨tg, tcap, htg, d0, _, _⟩ := text_cells HS.out.all i hil
      rw [HTLE.out] at htg
      simp only [Value.slice.injEq, true_and] at htg
      obtain ⟨rfl, rfl⟩ := htg
      have HD := Lib.hid (text_cells HS.out.all i hil)
      obtain ⟨s, hs⟩ : ∃ s, x.texts[i].1 = s := ⟨_, rfl⟩
      have HIS := Lib.hid hs
      rw [hs] at d0 HSN
      clear hs
      generalize hls : insAll (x.texts.take i) = l at *
      clear hls
      generalize wr = W at *
      go_wp2_with fail
      go_loopw [5] (fun kv w2 => RkRel s.data.toList l W kv w2) (fun kv _ => i - (RowKit.intOf kv).toNat)
      case atStart => exact ⟨0, rfl, Nat.zero_le _, fun j h hj => by omega, Upd.refl _ _⟩
      case round =>
        obtain ⟨k, rfl, hk, hless, hX2⟩ := hrel
        rw [HLEN.out] at hk
        have HLS := Lib.hid hless
        have HX2 := Lib.hid hX2
        have HR2 := Lib.hid (rows_upd HROW.out hX2 (fun _ _ => id))
        have HS2 := Lib.hid (HS.out.ext hX2)
        have c0 : wr.cell? ⟨b, 0, none⟩ = some (.slice (some ⟨tg, 0, none⟩) tl tc) := cell_of_blk HS2.out.blk 0
        have d0 : wr.cell? ⟨tg, i * 2, none⟩ = some (.string s) := by
          obtain ⟨g3, c3, h3, e0, _, _⟩ := text_cells HS2.out.all i hil
          rw [HTLE.out] at h3
          simp only [Value.slice.injEq, Option.some.injEq, Addr.mk.injEq, true_and, and_true] at h3
          obtain ⟨rfl, rfl⟩ := h3
          rw [HIS.out] at e0; exact e0
        clear hless hX2
        by_cases hkl : k < i
        · have hki : (k : Int) < i := by omega
          have hkb : k < 4194304 := by omega
          have hkl2 : k < l.length := by rw [HLEN.out]; exact hkl
          rcases HR2.out.2 with ⟨_, h0⟩ | ⟨g, cap, cur, hv, hbase, hblk, hnc, _⟩
          · omega
          · simp only [Value.slice.injEq, true_and] at hv
            obtain ⟨rfl, rfl⟩ := hv
            have ck := cells_enc HR2.out k hkl2
            have HGL := Lib.hid (lt_of_blk hblk)
            have HNC := Lib.hid hnc
            have hle : Op.bytesLess l[k] s.toList = decide (l[k] < s.data.toList) := by rw [bytesLess_eq, ByteArray.toList_eq]
            have HNX := Lib.hid (fun (hlt : l[k] < s.data.toList) (j : Nat) (h : j < l.length) (hj : j < k + 1) => show l[j] < s.data.toList from by
              by_cases e : j = k
              · subst e; exact hlt
              · exact HLS.out j h (by omega))
            have HPOS := Lib.hid (fun (hn : ¬ l[k] < s.data.toList) => posR_is s.data.toList l k (by omega) HLS.out (fun _ => hn))
            generalize l[k] = y at *
            simp only [encStr] at ck
            clear hblk hbase
            by_cases hy : y < s.data.toList
            · rw [decide_eq_true hy] at hle
              have HN2 := Lib.hid (HNX.out hy)
              clear hy
              go_wp2_with fail
              go_quiet (fail)
              go_wp2_with fail
              go_roundw
              case rel => exact ⟨k + 1, by simp, by rw [HLEN.out]; omega, HN2.out, HX2.out.drewN _⟩
              case measure => simp [RowKit.intOf] <;> omega
            · rw [decide_eq_false hy] at hle
              have HPS := Lib.hid (HPOS.out hy)
              clear hy
              go_wp2_with fail
              go_quiet (fail)
              have hkc : k ≤ c := by have := HNC.out; omega
              have hcc : ¬ c = k := by have := HNC.out; omega
              have HC1 := Lib.hid (cellsAt_take (rows_upd HROW.out (HX2.out.drewN nq) (fun _ _ => id)) k)
              have D6 := Lib.hid (Ext.cellv ((Upd.refl none' wr).drewN nq) d0)
              have HFAR : Hid (∀ (q : Nat), (Value.slice (some ⟨g, 0, none⟩) i c).ownBlock = some q → ∀ {A1 : Option Addr} {c1 : Nat}, ((Value.slice A1 k c1).ownBlock = (Value.slice none 0 0).ownBlock ∨ (Value.slice A1 k c1).ownBlock = some (wr.drewN nq).heap.size) → (Value.slice A1 k c1).ownBlock = some q → False) := Lib.hid (fun q hq A1 c1 hb e => by
                have hg : g = q := by simpa [Value.ownBlock] using hq
                have := HGL.out
                rcases hb with h | h
                · rw [h] at e; cases e
                · rw [h] at e
                  have : wr.heap.size = q := Option.some.inj e
                  omega)
              have HX6 := Lib.hid (HX.out.trans (HX2.out.drewN nq))
              have HR6 := Lib.hid (rows_upd HROW.out (HX2.out.drewN nq) (fun _ _ => id))
              have HS6 := Lib.hid (HS.out.ext (HX2.out.drewN nq))
              have HLT := Lib.hid (show ((l.take k).map encStr).length = k * 1 by rw [List.length_map, List.length_take, HLEN.out]; omega)
              have HLD := Lib.hid (show ((l.drop k).map encStr).length = (i - k) * 1 by rw [List.length_map, List.length_drop, HLEN.out]; omega)
              have HM1 := Lib.hid (show 0 + k ≤ maxLen ∧ (0 + k) * 16 ≤ 140737488355328 by unfold maxLen; omega)
              have HM2 := Lib.hid (show k + 1 ≤ maxLen ∧ (k + 1) * 16 ≤ 140737488355328 by unfold maxLen; omega)
              have HM3 := Lib.hid (show k + 1 + (i - k) ≤ maxLen ∧ (k + 1 + (i - k)) * 16 ≤ 140737488355328 by unfold maxLen; omega)
              have HO1 := Lib.hid (enc_ones (l.take k))
              have HO3 := Lib.hid (enc_ones (l.drop k))
              have HOS := Lib.hid (show ∀ u ∈ ([.string s] : List Value), u.oneCell' = true from fun u hu => by rw [List.mem_singleton.1 hu]; rfl)
              have HI3 := Lib.hid (show k + 1 + (i - k) = i + 1 by omega)
              have HB1 := Lib.hid HX6.out.size
              go_wp2_with (first
                | (at_builtin; refine wpList_appX rfl _ _ 86 rfl w.heap.size 9 j0 (.string ⟨#[]⟩) 1 16 Tryz.underlying86 hj0 hjz0 hjz1 hjz2 rfl (by decide) (.slice none 0 0) 0 [] rfl ⟨rfl, .inl ⟨rfl, rfl⟩⟩ (some ⟨g, 0, none⟩) k c ((l.take k).map encStr) rfl HLT.out HC1.out HO1.out HM1.out.1 HM1.out.2 HB1.out ?_; intro A1 c1 W7 hr1 hg1 hb1
                   rw [Nat.zero_add k] at hr1 hb1 ⊢
                   rw [List.nil_append] at hr1
                   have e7 := (Upd.refl none' _).grown hg1 (fun q hq => by cases hq)
                   have HX7 := Lib.hid (HX6.out.trans e7)
                   have HR7 := Lib.hid (rows_upd HR6.out e7 (fun _ _ => id))
                   have HS7 := Lib.hid (HS6.out.ext e7)
                   have HRM1 := Lib.hid hr1
                   have HBM1 := Lib.hid hb1
                   have c0 : W7.cell? ⟨b, 0, none⟩ = some (.slice (some ⟨tg, 0, none⟩) tl tc) := cell_of_blk HS7.out.blk 0
                   have d0 : W7.cell? ⟨tg, i * 2, none⟩ = some (.string s) := (Ext.cellv e7 D6.out)
                   have e8 : Ext W7 (W7.alloc (.cells #[.string s] 9)) := (Upd.refl none' W7).alloc _
                   have HX8 := Lib.hid (HX7.out.trans e8)
                   have HR8 := Lib.hid (rows_upd HR7.out e8 (fun _ _ => id))
                   have HRM8 := Lib.hid (rows_upd hr1 e8 (fun _ _ => id))
                   have HN8 := Lib.hid (str_new W7 s)
                   have HB8 := Lib.hid HX8.out.size
                   clear e7 e8 hr1 hb1 hg1
                   go_frame)
                | (at_builtin; refine wpList_appX rfl _ _ 86 rfl w.heap.size 9 j0 (.string ⟨#[]⟩) 1 16 Tryz.underlying86 hj0 hjz0 hjz1 hjz2 rfl (by decide) (.slice A1 k c1) k ((l.take k).map encStr) rfl HRM8.out (some ⟨W7.heap.size, 0, none⟩) 1 1 [.string s] rfl rfl HN8.out HOS.out HM2.out.1 HM2.out.2 HB8.out ?_; intro A2 c2 W9 hr2 hg2 hb2
                   have u9 := (Upd.refl (fun q => (Value.slice A1 k c1).ownBlock = some q) _).grown hg2 (fun q hq => .inr hq)
                   have HX9 := Lib.hid (HX8.out.grown hg2 (fun q hq => .inl (HRM8.out.lt q hq).1))
                   have HR9 := Lib.hid (rows_upd HR8.out u9 (fun q hq e => HFAR.out q hq HBM1.out e))
                   have HRM9 := Lib.hid hr2
                   have HC3 := Lib.hid (cellsAt_drop HR9.out k)
                   have HB9 := Lib.hid HX9.out.size
                   clear u9 hr2 hb2 hg2
                   go_frame)
                | (at_builtin; go_must (refine wpList_appX rfl _ _ 86 rfl w.heap.size 9 j0 (.string ⟨#[]⟩) 1 16 Tryz.underlying86 hj0 hjz0 hjz1 hjz2 rfl (by decide) (.slice A2 (k + 1) c2) (k + 1) ((l.take k).map encStr ++ [.string s]) rfl HRM9.out (some ⟨g, k, none⟩) (i - k) (c - k) ((l.drop k).map encStr) rfl HLD.out HC3.out HO3.out HM3.out.1 HM3.out.2 HB9.out ?_); intro A3 c4 W10 hr3 hg3 hb3
                   have HX10 := Lib.hid (HX9.out.grown hg3 (fun q hq => .inl (HRM9.out.lt q hq).1))
                   rw [HI3.out] at hr3 ⊢
                   have HR10 := Lib.hid hr3
                   clear hr3 hg3 hb3
                   go_frame))
              go_roundw
              case rel => exact ⟨i + 1, by simp, by rw [HTLE.out]; omega, by
                have h := HR10.out
                rw [HSN.out]
                unfold insR
                rw [HPS.out, List.map_append, List.map_cons, enc_is]
                simpa using h, HX10.out⟩
              case measure => simp [RowKit.intOf] <;> omega
        · obtain rfl : k = i := by omega
          have hki : ¬ ((k : Int) < (k : Int)) := by omega
          have HPS := Lib.hid (posR_is s.data.toList l k (by rw [HLEN.out]; exact Nat.le_refl _) HLS.out (fun h => by rw [HLEN.out] at h; omega))
          rcases HR2.out.2 with ⟨hnil, _⟩ | ⟨g, cap, cur, hv, hbase, hblk, hnc, _⟩
          · simp only [Value.slice.injEq] at hnil
            obtain ⟨rfl, rfl, rfl⟩ := hnil
            go_wp2_with fail
            go_quiet (fail)
            have HC1 := Lib.hid (CellsAt.nil (wr.drewN nq) none)
            rw [show l = [] from List.length_eq_zero_iff.1 HLEN.out] at *
            have D6 := Lib.hid (Ext.cellv ((Upd.refl none' wr).drewN nq) d0)
            have HFAR : Hid (∀ (q : Nat), (Value.slice none 0 0).ownBlock = some q → ∀ {A1 : Option Addr} {c1 : Nat}, ((Value.slice A1 0 c1).ownBlock = (Value.slice none 0 0).ownBlock ∨ (Value.slice A1 0 c1).ownBlock = some (wr.drewN nq).heap.size) → (Value.slice A1 0 c1).ownBlock = some q → False) := Lib.hid (fun q hq A1 c1 hb e => by
              cases hq)
            have HX6 := Lib.hid (HX.out.trans (HX2.out.drewN nq))
            have HR6 := Lib.hid (rows_upd HROW.out (HX2.out.drewN nq) (fun _ _ => id))
            have HS6 := Lib.hid (HS.out.ext (HX2.out.drewN nq))
            have HLT := Lib.hid (show (([] : List (List UInt8)).map encStr).length = 0 * 1 by rfl)
            have HLD := Lib.hid (show (([] : List (List UInt8)).map encStr).length = (0) * 1 by rfl)
            have HM1 := Lib.hid (show 0 + 0 ≤ maxLen ∧ (0 + 0) * 16 ≤ 140737488355328 by unfold maxLen; omega)
            have HM2 := Lib.hid (show 0 + 1 ≤ maxLen ∧ (0 + 1) * 16 ≤ 140737488355328 by unfold maxLen; omega)
            have HM3 := Lib.hid (show 0 + 1 + (0) ≤ maxLen ∧ (0 + 1 + (0)) * 16 ≤ 140737488355328 by unfold maxLen; omega)
            have HO1 := Lib.hid (enc_ones ([] : List (List UInt8)))
            have HO3 := Lib.hid (enc_ones ([] : List (List UInt8)))
            have HOS := Lib.hid (show ∀ u ∈ ([.string s] : List Value), u.oneCell' = true from fun u hu => by rw [List.mem_singleton.1 hu]; rfl)
            have HI3 := Lib.hid (show 0 + 1 + (0) = 0 + 1 by omega)
            have HB1 := Lib.hid HX6.out.size
            go_wp2_with (first
              | (at_builtin; refine wpList_appX rfl _ _ 86 rfl w.heap.size 9 j0 (.string ⟨#[]⟩) 1 16 Tryz.underlying86 hj0 hjz0 hjz1 hjz2 rfl (by decide) (.slice none 0 0) 0 [] rfl ⟨rfl, .inl ⟨rfl, rfl⟩⟩ none 0 0 (([] : List (List UInt8)).map encStr) rfl HLT.out HC1.out HO1.out HM1.out.1 HM1.out.2 HB1.out ?_; intro A1 c1 W7 hr1 hg1 hb1
                 rw [Nat.zero_add 0] at hr1 hb1 ⊢
                 rw [List.nil_append] at hr1
                 have e7 := (Upd.refl none' _).grown hg1 (fun q hq => by cases hq)
                 have HX7 := Lib.hid (HX6.out.trans e7)
                 have HR7 := Lib.hid (rows_upd HR6.out e7 (fun _ _ => id))
                 have HS7 := Lib.hid (HS6.out.ext e7)
                 have HRM1 := Lib.hid hr1
                 have HBM1 := Lib.hid hb1
                 have c0 : W7.cell? ⟨b, 0, none⟩ = some (.slice (some ⟨tg, 0, none⟩) tl tc) := cell_of_blk HS7.out.blk 0
                 have d0 : W7.cell? ⟨tg, 0 * 2, none⟩ = some (.string s) := (Ext.cellv e7 D6.out)
                 have e8 : Ext W7 (W7.alloc (.cells #[.string s] 9)) := (Upd.refl none' W7).alloc _
                 have HX8 := Lib.hid (HX7.out.trans e8)
                 have HR8 := Lib.hid (rows_upd HR7.out e8 (fun _ _ => id))
                 have HRM8 := Lib.hid (rows_upd hr1 e8 (fun _ _ => id))
                 have HN8 := Lib.hid (str_new W7 s)
                 have HB8 := Lib.hid HX8.out.size
                 clear e7 e8 hr1 hb1 hg1
                 go_frame)
              | (at_builtin; refine wpList_appX rfl _ _ 86 rfl w.heap.size 9 j0 (.string ⟨#[]⟩) 1 16 Tryz.underlying86 hj0 hjz0 hjz1 hjz2 rfl (by decide) (.slice A1 0 c1) 0 (([] : List (List UInt8)).map encStr) rfl HRM8.out (some ⟨W7.heap.size, 0, none⟩) 1 1 [.string s] rfl rfl HN8.out HOS.out HM2.out.1 HM2.out.2 HB8.out ?_; intro A2 c2 W9 hr2 hg2 hb2
                 have u9 := (Upd.refl (fun q => (Value.slice A1 0 c1).ownBlock = some q) _).grown hg2 (fun q hq => .inr hq)
                 have HX9 := Lib.hid (HX8.out.grown hg2 (fun q hq => .inl (HRM8.out.lt q hq).1))
                 have HR9 := Lib.hid (rows_upd HR8.out u9 (fun q hq e => HFAR.out q hq HBM1.out e))
                 have HRM9 := Lib.hid hr2
                 have HC3 := Lib.hid (CellsAt.nil W9 none)
                 have HB9 := Lib.hid HX9.out.size
                 clear u9 hr2 hb2 hg2
                 go_frame)
              | (at_builtin; go_must (refine wpList_appX rfl _ _ 86 rfl w.heap.size 9 j0 (.string ⟨#[]⟩) 1 16 Tryz.underlying86 hj0 hjz0 hjz1 hjz2 rfl (by decide) (.slice A2 (0 + 1) c2) (0 + 1) (([] : List (List UInt8)).map encStr ++ [.string s]) rfl HRM9.out none (0) (0) (([] : List (List UInt8)).map encStr) rfl HLD.out HC3.out HO3.out HM3.out.1 HM3.out.2 HB9.out ?_); intro A3 c4 W10 hr3 hg3 hb3
                 have HX10 := Lib.hid (HX9.out.grown hg3 (fun q hq => .inl (HRM9.out.lt q hq).1))
                 rw [HI3.out] at hr3 ⊢
                 have HR10 := Lib.hid hr3
                 clear hr3 hg3 hb3
                 go_frame))
            go_roundw
            case rel => exact ⟨0 + 1, by simp, by rw [HTLE.out]; omega, by
              have h := HR10.out
              rw [HSN.out]
              unfold insR
              rw [HPS.out, List.map_append, List.map_cons, enc_is]
              simpa using h, HX10.out⟩
            case measure => simp [RowKit.intOf] <;> omega
          · simp only [Value.slice.injEq, true_and] at hv
            obtain ⟨rfl, rfl⟩ := hv
            have HGL := Lib.hid (lt_of_blk hblk)
            have HNC := Lib.hid hnc
            have hkc : k ≤ c := hnc
            clear hblk hbase hnc
            by_cases hcc : c = k
            · subst hcc
              go_wp2_with fail
              go_quiet (fail)
              have HC1 := Lib.hid (cellsAt_take (rows_upd HROW.out (HX2.out.drewN nq) (fun _ _ => id)) c)
              have D6 := Lib.hid (Ext.cellv ((Upd.refl none' wr).drewN nq) d0)
              have HFAR : Hid (∀ (q : Nat), (Value.slice (some ⟨g, 0, none⟩) c c).ownBlock = some q → ∀ {A1 : Option Addr} {c1 : Nat}, ((Value.slice A1 c c1).ownBlock = (Value.slice none 0 0).ownBlock ∨ (Value.slice A1 c c1).ownBlock = some (wr.drewN nq).heap.size) → (Value.slice A1 c c1).ownBlock = some q → False) := Lib.hid (fun q hq A1 c1 hb e => by
                have hg : g = q := by simpa [Value.ownBlock] using hq
                have := HGL.out
                rcases hb with h | h
                · rw [h] at e; cases e
                · rw [h] at e
                  have : wr.heap.size = q := Option.some.inj e
                  omega)
              have HX6 := Lib.hid (HX.out.trans (HX2.out.drewN nq))
              have HR6 := Lib.hid (rows_upd HROW.out (HX2.out.drewN nq) (fun _ _ => id))
              have HS6 := Lib.hid (HS.out.ext (HX2.out.drewN nq))
              have HLT := Lib.hid (show ((l.take c).map encStr).length = c * 1 by rw [List.length_map, List.length_take, HLEN.out]; omega)
              have HLD := Lib.hid (show ((l.drop c).map encStr).length = (0) * 1 by rw [List.length_map, List.length_drop, HLEN.out]; omega)
              have HM1 := Lib.hid (show 0 + c ≤ maxLen ∧ (0 + c) * 16 ≤ 140737488355328 by unfold maxLen; omega)
              have HM2 := Lib.hid (show c + 1 ≤ maxLen ∧ (c + 1) * 16 ≤ 140737488355328 by unfold maxLen; omega)
              have HM3 := Lib.hid (show c + 1 + (0) ≤ maxLen ∧ (c + 1 + (0)) * 16 ≤ 140737488355328 by unfold maxLen; omega)
              have HO1 := Lib.hid (enc_ones (l.take c))
              have HO3 := Lib.hid (enc_ones (l.drop c))
              have HOS := Lib.hid (show ∀ u ∈ ([.string s] : List Value), u.oneCell' = true from fun u hu => by rw [List.mem_singleton.1 hu]; rfl)
              have HI3 := Lib.hid (show c + 1 + (0) = c + 1 by omega)
              have HB1 := Lib.hid HX6.out.size
              go_wp2_with (first
                | (at_builtin; refine wpList_appX rfl _ _ 86 rfl w.heap.size 9 j0 (.string ⟨#[]⟩) 1 16 Tryz.underlying86 hj0 hjz0 hjz1 hjz2 rfl (by decide) (.slice none 0 0) 0 [] rfl ⟨rfl, .inl ⟨rfl, rfl⟩⟩ (some ⟨g, 0, none⟩) c c ((l.take c).map encStr) rfl HLT.out HC1.out HO1.out HM1.out.1 HM1.out.2 HB1.out ?_; intro A1 c1 W7 hr1 hg1 hb1
                   rw [Nat.zero_add c] at hr1 hb1 ⊢
                   rw [List.nil_append] at hr1
                   have e7 := (Upd.refl none' _).grown hg1 (fun q hq => by cases hq)
                   have HX7 := Lib.hid (HX6.out.trans e7)
                   have HR7 := Lib.hid (rows_upd HR6.out e7 (fun _ _ => id))
                   have HS7 := Lib.hid (HS6.out.ext e7)
                   have HRM1 := Lib.hid hr1
                   have HBM1 := Lib.hid hb1
                   have c0 : W7.cell? ⟨b, 0, none⟩ = some (.slice (some ⟨tg, 0, none⟩) tl tc) := cell_of_blk HS7.out.blk 0
                   have d0 : W7.cell? ⟨tg, c * 2, none⟩ = some (.string s) := (Ext.cellv e7 D6.out)
                   have e8 : Ext W7 (W7.alloc (.cells #[.string s] 9)) := (Upd.refl none' W7).alloc _
                   have HX8 := Lib.hid (HX7.out.trans e8)
                   have HR8 := Lib.hid (rows_upd HR7.out e8 (fun _ _ => id))
                   have HRM8 := Lib.hid (rows_upd hr1 e8 (fun _ _ => id))
                   have HN8 := Lib.hid (str_new W7 s)
                   have HB8 := Lib.hid HX8.out.size
                   clear e7 e8 hr1 hb1 hg1
                   go_frame)
                | (at_builtin; refine wpList_appX rfl _ _ 86 rfl w.heap.size 9 j0 (.string ⟨#[]⟩) 1 16 Tryz.underlying86 hj0 hjz0 hjz1 hjz2 rfl (by decide) (.slice A1 c c1) c ((l.take c).map encStr) rfl HRM8.out (some ⟨W7.heap.size, 0, none⟩) 1 1 [.string s] rfl rfl HN8.out HOS.out HM2.out.1 HM2.out.2 HB8.out ?_; intro A2 c2 W9 hr2 hg2 hb2
                   have u9 := (Upd.refl (fun q => (Value.slice A1 c c1).ownBlock = some q) _).grown hg2 (fun q hq => .inr hq)
                   have HX9 := Lib.hid (HX8.out.grown hg2 (fun q hq => .inl (HRM8.out.lt q hq).1))
                   have HR9 := Lib.hid (rows_upd HR8.out u9 (fun q hq e => HFAR.out q hq HBM1.out e))
                   have HRM9 := Lib.hid hr2
                   have HC3 := Lib.hid (show CellsAt W9 (some ⟨g, 0, none⟩) ((l.drop c).map encStr) from by rw [List.drop_of_length_le (by rw [HLEN.out]; exact Nat.le_refl _)]; exact CellsAt.nil _ _)
                   have HB9 := Lib.hid HX9.out.size
                   clear u9 hr2 hb2 hg2
                   go_frame)
                | (at_builtin; go_must (refine wpList_appX rfl _ _ 86 rfl w.heap.size 9 j0 (.string ⟨#[]⟩) 1 16 Tryz.underlying86 hj0 hjz0 hjz1 hjz2 rfl (by decide) (.slice A2 (c + 1) c2) (c + 1) ((l.take c).map encStr ++ [.string s]) rfl HRM9.out (some ⟨g, 0, none⟩) (0) (0) ((l.drop c).map encStr) rfl HLD.out HC3.out HO3.out HM3.out.1 HM3.out.2 HB9.out ?_); intro A3 c4 W10 hr3 hg3 hb3
                   have HX10 := Lib.hid (HX9.out.grown hg3 (fun q hq => .inl (HRM9.out.lt q hq).1))
                   rw [HI3.out] at hr3 ⊢
                   have HR10 := Lib.hid hr3
                   clear hr3 hg3 hb3
                   go_frame))
              go_roundw
              case rel => exact ⟨c + 1, by simp, by rw [HTLE.out]; omega, by
                have h := HR10.out
                rw [HSN.out]
                unfold insR
                rw [HPS.out, List.map_append, List.map_cons, enc_is]
                simpa using h, HX10.out⟩
              case measure => simp [RowKit.intOf] <;> omega
            · go_wp2_with fail
              go_quiet (fail)
              have HC1 := Lib.hid (cellsAt_take (rows_upd HROW.out (HX2.out.drewN nq) (fun _ _ => id)) k)
              have D6 := Lib.hid (Ext.cellv ((Upd.refl none' wr).drewN nq) d0)
              have HFAR : Hid (∀ (q : Nat), (Value.slice (some ⟨g, 0, none⟩) k c).ownBlock = some q → ∀ {A1 : Option Addr} {c1 : Nat}, ((Value.slice A1 k c1).ownBlock = (Value.slice none 0 0).ownBlock ∨ (Value.slice A1 k c1).ownBlock = some (wr.drewN nq).heap.size) → (Value.slice A1 k c1).ownBlock = some q → False) := Lib.hid (fun q hq A1 c1 hb e => by
                have hg : g = q := by simpa [Value.ownBlock] using hq
                have := HGL.out
                rcases hb with h | h
                · rw [h] at e; cases e
                · rw [h] at e
                  have : wr.heap.size = q := Option.some.inj e
                  omega)
              have HX6 := Lib.hid (HX.out.trans (HX2.out.drewN nq))
              have HR6 := Lib.hid (rows_upd HROW.out (HX2.out.drewN nq) (fun _ _ => id))
              have HS6 := Lib.hid (HS.out.ext (HX2.out.drewN nq))
              have HLT := Lib.hid (show ((l.take k).map encStr).length = k * 1 by rw [List.length_map, List.length_take, HLEN.out]; omega)
              have HLD := Lib.hid (show ((l.drop k).map encStr).length = (0) * 1 by rw [List.length_map, List.length_drop, HLEN.out]; omega)
              have HM1 := Lib.hid (show 0 + k ≤ maxLen ∧ (0 + k) * 16 ≤ 140737488355328 by unfold maxLen; omega)
              have HM2 := Lib.hid (show k + 1 ≤ maxLen ∧ (k + 1) * 16 ≤ 140737488355328 by unfold maxLen; omega)
              have HM3 := Lib.hid (show k + 1 + (0) ≤ maxLen ∧ (k + 1 + (0)) * 16 ≤ 140737488355328 by unfold maxLen; omega)
              have HO1 := Lib.hid (enc_ones (l.take k))
              have HO3 := Lib.hid (enc_ones (l.drop k))
              have HOS := Lib.hid (show ∀ u ∈ ([.string s] : List Value), u.oneCell' = true from fun u hu => by rw [List.mem_singleton.1 hu]; rfl)
              have HI3 := Lib.hid (show k + 1 + (0) = k + 1 by omega)
              have HB1 := Lib.hid HX6.out.size
              go_wp2_with (first
                | (at_builtin; refine wpList_appX rfl _ _ 86 rfl w.heap.size 9 j0 (.string ⟨#[]⟩) 1 16 Tryz.underlying86 hj0 hjz0 hjz1 hjz2 rfl (by decide) (.slice none 0 0) 0 [] rfl ⟨rfl, .inl ⟨rfl, rfl⟩⟩ (some ⟨g, 0, none⟩) k c ((l.take k).map encStr) rfl HLT.out HC1.out HO1.out HM1.out.1 HM1.out.2 HB1.out ?_; intro A1 c1 W7 hr1 hg1 hb1
                   rw [Nat.zero_add k] at hr1 hb1 ⊢
                   rw [List.nil_append] at hr1
                   have e7 := (Upd.refl none' _).grown hg1 (fun q hq => by cases hq)
                   have HX7 := Lib.hid (HX6.out.trans e7)
                   have HR7 := Lib.hid (rows_upd HR6.out e7 (fun _ _ => id))
                   have HS7 := Lib.hid (HS6.out.ext e7)
                   have HRM1 := Lib.hid hr1
                   have HBM1 := Lib.hid hb1
                   have c0 : W7.cell? ⟨b, 0, none⟩ = some (.slice (some ⟨tg, 0, none⟩) tl tc) := cell_of_blk HS7.out.blk 0
                   have d0 : W7.cell? ⟨tg, k * 2, none⟩ = some (.string s) := (Ext.cellv e7 D6.out)
                   have e8 : Ext W7 (W7.alloc (.cells #[.string s] 9)) := (Upd.refl none' W7).alloc _
                   have HX8 := Lib.hid (HX7.out.trans e8)
                   have HR8 := Lib.hid (rows_upd HR7.out e8 (fun _ _ => id))
                   have HRM8 := Lib.hid (rows_upd hr1 e8 (fun _ _ => id))
                   have HN8 := Lib.hid (str_new W7 s)
                   have HB8 := Lib.hid HX8.out.size
                   clear e7 e8 hr1 hb1 hg1
                   go_frame)
                | (at_builtin; refine wpList_appX rfl _ _ 86 rfl w.heap.size 9 j0 (.string ⟨#[]⟩) 1 16 Tryz.underlying86 hj0 hjz0 hjz1 hjz2 rfl (by decide) (.slice A1 k c1) k ((l.take k).map encStr) rfl HRM8.out (some ⟨W7.heap.size, 0, none⟩) 1 1 [.string s] rfl rfl HN8.out HOS.out HM2.out.1 HM2.out.2 HB8.out ?_; intro A2 c2 W9 hr2 hg2 hb2
                   have u9 := (Upd.refl (fun q => (Value.slice A1 k c1).ownBlock = some q) _).grown hg2 (fun q hq => .inr hq)
                   have HX9 := Lib.hid (HX8.out.grown hg2 (fun q hq => .inl (HRM8.out.lt q hq).1))
                   have HR9 := Lib.hid (rows_upd HR8.out u9 (fun q hq e => HFAR.out q hq HBM1.out e))
                   have HRM9 := Lib.hid hr2
                   have HC3 := Lib.hid (cellsAt_drop HR9.out k)
                   have HB9 := Lib.hid HX9.out.size
                   clear u9 hr2 hb2 hg2
                   go_frame)
                | (at_builtin; go_must (refine wpList_appX rfl _ _ 86 rfl w.heap.size 9 j0 (.string ⟨#[]⟩) 1 16 Tryz.underlying86 hj0 hjz0 hjz1 hjz2 rfl (by decide) (.slice A2 (k + 1) c2) (k + 1) ((l.take k).map encStr ++ [.string s]) rfl HRM9.out (some ⟨g, k, none⟩) (0) (c - k) ((l.drop k).map encStr) rfl HLD.out HC3.out HO3.out HM3.out.1 HM3.out.2 HB9.out ?_); intro A3 c4 W10 hr3 hg3 hb3
                   have HX10 := Lib.hid (HX9.out.grown hg3 (fun q hq => .inl (HRM9.out.lt q hq).1))
                   rw [HI3.out] at hr3 ⊢
                   have HR10 := Lib.hid hr3
                   clear hr3 hg3 hb3
                   go_frame))
              go_roundw
              case rel => exact ⟨k + 1, by simp, by rw [HTLE.out]; omega, by
                have h := HR10.out
                rw [HSN.out]
                unfold insR
                rw [HPS.out, List.map_append, List.map_cons, enc_is]
                simpa using h, HX10.out⟩
              case measure => simp [RowKit.intOf] <;> omega
    · obtain rfl : i = tl := by omega
      have hii : ¬ ((i : Int) < (i : Int)) := by omega
      go_wp2_with fail
      go_ret
      refine ⟨A, c, rfl, ?_, HX.out⟩
      have h := HROW.out
      rw [List.take_of_length_le (by rw [HTLE.out]; exact Nat.le_refl _), insAll_names] at h
      exact h

end Go.Proofs.YtdkhnkhflbefbaaGreatDoor
