/- The statements' short and logged of chapter 25 by contracts. A store and its writer, with the log that they hold; appends by contract, in the terms of that log. TextsSize, Beyond of one length: whatever they answer. What the walks of WriterWhole and WriterCrash need: Beyond of two numbers whatever they are; a part of a row of texts. The walk of WriterWhole. PRINTED by wip/tools/gen_whole.py. -/
import Derived.Test.YtnkcfkjeeennmaaGreatDoorNTree
import Derived.Test.YtnkcfkjeeennmaaGreatDoorTxt
import Derived.Test.YtnkcfkjeeennmaaGreatDoorKeep2
import Derived.Test.YtnkcfkjeeennmaaGreatDoorHab
import Derived.Test.YtnkcfkjeeennmaaGreatDoorNoneP
namespace Go.Proofs.YtnkcfkjeeennmaaGreatDoor
open Go.RowKit Go.Lib Go.Sort


/-- The first texts that a log and an append may have. -/
def okL (ls : List (List UInt8)) : List (List UInt8) := ls.filter (fun s => decide (s.length ≤ 65536))
def shortP (ls : List (List UInt8)) : List (List UInt8) := (okL ls).take 600
theorem okL_snoc (ls : List (List UInt8)) (i : Nat) (s : List UInt8) (h : ls[i]? = some s) : okL (ls.take (i + 1)) = okL (ls.take i) ++ (if s.length ≤ 65536 then [s] else []) := by
  unfold okL
  rw [List.take_add_one, h, List.filter_append]
  congr 1
  by_cases hs : s.length ≤ 65536 <;> simp [hs]
theorem short_end1 (ls : List (List UInt8)) (h : (okL ls).length ≤ 600) : okL ls = shortP ls := by
  unfold shortP
  rw [List.take_of_length_le h]
theorem short_end2 (ls : List (List UInt8)) (i : Nat) (h : (okL (ls.take i)).length = 600) : okL (ls.take i) = shortP ls := by
  have e : okL ls = okL (ls.take i) ++ okL (ls.drop i) := by
    unfold okL
    rw [← List.filter_append, List.take_append_drop]
  unfold shortP
  rw [e, List.take_append_of_le_length (by omega)]
  exact (List.take_of_length_le (by omega)).symm
theorem shortP_le (ls : List (List UInt8)) : (shortP ls).length ≤ 600 := by unfold shortP; rw [List.length_take]; omega
theorem shortP_sz (ls : List (List UInt8)) : ∀ s ∈ shortP ls, s.length ≤ 65536 := fun s hs => by
  have h := List.mem_of_mem_take hs
  have := (List.mem_filter.1 h).2
  simpa using this
def ShRel (w : World) (ls : List (List UInt8)) (ov iv : Value) (wr : World) : Prop :=
  ∃ (i : Nat) (A : Option Addr) (c m : Nat), i ≤ ls.length ∧ iv = .int .i64 i ∧ m = (okL (ls.take i)).length ∧ m ≤ 600 ∧ ov = .slice A m c ∧ wr.ownsRow w.heap.size 9 1 ov m ((okL (ls.take i)).map encStr) ∧ Ext w wr
set_option maxRecDepth 20000 in
set_option maxHeartbeats 8000000 in
theorem short_any {w : World} {a : Option Addr} {ls : List (List UInt8)} (h : TextsAt w a (strs ls)) (hl : ls.length ≤ 9223372036854775807) (ca : Nat) :
    Calls Tryz.prog 25 #[.slice a ls.length ca] w fun e w' => ∃ v, e = .returned v ∧ w'.ownsRow w.heap.size 9 1 v (shortP ls).length ((shortP ls).map encStr) ∧ Ext w w' := by
  obtain ⟨i0, hi0, hz0, hz1, hz2⟩ := info_parts info_strN
  have HT := Lib.hid h
  have HL := Lib.hid hl
  obtain ⟨n, hn⟩ : ∃ n, n = ls.length := ⟨_, rfl⟩
  have HN := Lib.hid hn
  rw [← hn]
  clear h hl hn
  go_enter Tryz.func25, Tryz.ntmps25
  go_wp2_with fail
  go_loopw [3, 4] (fun ov iv wr => ShRel w ls ov iv wr) (fun _ iv _ => n - (RowKit.intOf iv).toNat)
  case atStart => exact ⟨0, none, 0, 0, Nat.zero_le _, rfl, rfl, Nat.zero_le _, rfl, World.ownsRow_nil _ _ _ _, Upd.refl _ _⟩
  case round =>
    obtain ⟨i, A, c, m, hi, rfl, hm, hm6, rfl, hown, hu⟩ := hrel
    have HO := Lib.hid hown
    have HU := Lib.hid hu
    have HM := Lib.hid (And.intro hm hm6)
    have HI := Lib.hid hi
    clear hown hu hm
    by_cases hlt : i < n
    · have hlti : (i : Int) < n := by omega
      have hib : i < 9223372036854775807 := by have := HL.out; have := HN.out; omega
      by_cases h6 : m < 600
      · have h6i : (m : Int) < 600 := by omega
        obtain ⟨s, hs⟩ : ∃ s, ls[i]? = some s := ⟨_, List.getElem?_eq_getElem (by rw [← HN.out]; exact hlt)⟩
        obtain ⟨hsz, b, o, rfl, hc⟩ := HT.out i (str s) (by unfold strs; rw [List.getElem?_map, hs]; rfl)
        have hcr : wr.cell? ⟨b, o + i, none⟩ = some (.string (str s)) := Ext.cellv HU.out hc
        have HSN := Lib.hid (okL_snoc ls i s hs)
        have HLT := Lib.hid (And.intro hlt h6)
        have hwi : IntKind.i64.wrap ((i : Int) + 1) = ((i + 1 : Nat) : Int) := (IntWalk.i64_in _ (by omega)).trans (by omega)
        by_cases hok : s.length ≤ 65536
        · have hoki : ¬ (65536 : Int) < s.length := by omega
          have hoki2 : (s.length : Int) ≤ 65536 := by omega
          have HOK := Lib.hid hok
          have HU3 := Lib.hid ((Upd.refl none' wr).alloc (.cells #[.string (str s)] 9))
          have HO3 := Lib.hid (ownsRow_upd HO.out HU3.out (fun _ _ => id))
          have HCN : Hid (CellsAt (wr.alloc (.cells #[.string (str s)] 9)) (some ⟨wr.heap.size, 0, none⟩) [.string (str s)]) := Lib.hid (fun j u hu => ⟨_, rfl, by
            rw [Addr.add_lit]
            exact blk_cells (blk_alloc wr (.cells #[.string (str s)] 9)) j u hu⟩)
          have HO1 : Hid (∀ u ∈ ([.string (str s)] : List Value), u.oneCell' = true) := Lib.hid (by intro u hu; rw [List.mem_singleton.1 hu]; rfl)
          have HLM : Hid (m + 1 ≤ maxLen ∧ (m + 1) * 16 ≤ 140737488355328) := Lib.hid (by unfold maxLen; omega)
          have HBW : Hid (w.heap.size ≤ (wr.alloc (.cells #[.string (str s)] 9)).heap.size) := Lib.hid (Nat.le_trans HU.out.size HU3.out.size)
          clear hsz hc hs hok hi
          go_wp2_with (first
            | (refine wpList_run rfl (exec_build1 22 9 _ rfl (.string (str s)) rfl Tryz.underlying22 i0 _ hi0 hz0 hz1 rfl) ?_)
            | (at_builtin; (refine wpList_appX rfl _ _ 22 rfl w.heap.size 9 i0 _ 1 16 Tryz.underlying22 hi0 hz0 hz1 hz2 rfl (by decide) (.slice A m c) m _ rfl HO3.out (some ⟨wr.heap.size, 0, none⟩) 1 1 [.string (str s)] rfl rfl HCN.out HO1.out HLM.out.1 HLM.out.2 HBW.out ?_)))
          intro A7 c7 w7 hown7 hgrow7 _
          have HU7 : Hid (Ext w w7) := Lib.hid ((HU.out.trans HU3.out).grown hgrow7 (fun g hg => .inl (HO3.out.lt g hg).1))
          have HO7 : Hid (w7.ownsRow w.heap.size 9 1 (.slice A7 (m + 1) c7) (m + 1) ((okL (ls.take (i + 1))).map encStr)) := Lib.hid (by rw [HSN.out, if_pos HOK.out, List.map_append]; exact hown7)
          clear hown7 hgrow7
          go_wp2_with fail
          have hlt := HLT.out
          have hn := HN.out
          go_roundw
          case rel => exact ⟨i + 1, A7, c7, m + 1, by omega, by first | rfl | (simp <;> omega), by rw [HSN.out, if_pos HOK.out, List.length_append, ← HM.out.1]; rfl, by omega, rfl, HO7.out, HU7.out⟩
          case measure => simp [RowKit.intOf] <;> omega
        · have hoki : (65536 : Int) < s.length := by omega
          have hoki2 : ¬ (s.length : Int) ≤ 65536 := by omega
          have HOK := Lib.hid hok
          clear hsz hc hs hok hi
          go_wp2_with fail
          have hlt := HLT.out
          have hn := HN.out
          go_roundw
          case rel => exact ⟨i + 1, A, c, m, by omega, by first | rfl | (simp <;> omega), by rw [HSN.out, if_neg HOK.out, List.append_nil]; exact HM.out.1, HM.out.2, rfl, by rw [HSN.out, if_neg HOK.out, List.append_nil]; exact HO.out, HU.out⟩
          case measure => simp [RowKit.intOf] <;> omega
      · have h6i : ¬ (m : Int) < 600 := by omega
        have HE := Lib.hid (short_end2 ls i (by have := HM.out; omega))
        clear hi
        go_wp2_with fail
        go_ret
        refine ⟨_, rfl, ?_, HU.out⟩
        rw [← HE.out, ← HM.out.1]
        exact HO.out
    · have hlti : ¬ (i : Int) < n := by omega
      have HE : Hid (okL (ls.take i) = shortP ls) := Lib.hid (by
        have hin : i = ls.length := by have := HN.out; omega
        have h9 := HM.out
        rw [hin, List.take_length] at h9 ⊢
        exact short_end1 ls (by omega))
      clear hi
      go_wp2_with fail
      go_ret
      refine ⟨_, rfl, ?_, HU.out⟩
      rw [← HE.out, ← HM.out.1]
      exact HO.out
set_option maxRecDepth 20000 in
set_option maxHeartbeats 8000000 in
theorem logged_any {w : World} {a : Option Addr} {ls : List (List UInt8)} (h : TextsAt w a (strs ls)) (hsz : ∀ s ∈ ls, s.length ≤ 65536) (hl : ls.length ≤ 1048576) (ca : Nat) :
    Calls Tryz.prog 26 #[.slice a ls.length ca] w fun e w' => ∃ lb lv, e = .returned (.pointer (some ⟨lb, 0, none⟩)) ∧ NvAt w.heap.size w' lb lv ls ∧ Ext w w' := by
  have HT := Lib.hid h
  have HL := Lib.hid hl
  have HSZ := Lib.hid hsz
  obtain ⟨n, hn⟩ : ∃ n, n = ls.length := ⟨_, rfl⟩
  have HN := Lib.hid hn
  rw [← hn]
  have CN := nnew_any w
  clear h hl hn hsz
  go_enter Tryz.func26, Tryz.ntmps26
  go_wp2_with fail
  refine CN.mono ?_
  rintro e w1 ⟨rfl, hnv, hx⟩
  have HNV := Lib.hid hnv
  have HX := Lib.hid hx
  clear CN hnv hx
  obtain ⟨lb, hlb⟩ : ∃ g, g = w.heap.size := ⟨_, rfl⟩
  have HLB := Lib.hid hlb
  rw [← hlb]
  clear hlb
  go_wp2_with fail
  go_loopw [4, 5, 6] (fun iv _ _ wr => ∃ (i : Nat) (lv : Value), i ≤ n ∧ iv = .int .i64 i ∧ NvAt w.heap.size wr lb lv (ls.take i) ∧ Ext w wr) (fun iv _ _ _ => n - (RowKit.intOf iv).toNat)
  case atStart => exact ⟨0, _, Nat.zero_le _, rfl, by rw [HLB.out]; exact HNV.out, HX.out⟩
  case round =>
    obtain ⟨i, lv, hi, rfl, hnv, hu⟩ := hrel
    have HV := Lib.hid hnv
    have HU := Lib.hid hu
    clear hnv hu
    by_cases hlt : i < n
    · have hlti : (i : Int) < n := by omega
      have hib : i < 1048576 := by have := HL.out; have := HN.out; omega
      obtain ⟨s, hs⟩ : ∃ s, ls[i]? = some s := ⟨_, List.getElem?_eq_getElem (by rw [← HN.out]; exact hlt)⟩
      obtain ⟨_, b, o, rfl, hc⟩ := HT.out i (str s) (by unfold strs; rw [List.getElem?_map, hs]; rfl)
      have hcr : wr.cell? ⟨b, o + i, none⟩ = some (.string (str s)) := Ext.cellv HU.out hc
      have CA := nappend_any HV.out s (HSZ.out s (List.mem_of_getElem? hs)) (by rw [List.length_take]; omega)
      have HTK : Hid (ls.take (i + 1) = ls.take i ++ [s]) := Lib.hid (by rw [List.take_add_one, hs]; rfl)
      have HLT := Lib.hid hlt
      have HLO : Hid (∀ g, (g = lb ∨ lv.ownBlock = some g) → w.heap.size ≤ g) := Lib.hid (fun g hg => by
        rcases hg with rfl | hg
        · exact HV.out.lo
        · exact (HV.out.row.lt g hg).1)
      have hwi : IntKind.i64.wrap ((i : Int) + 1) = ((i + 1 : Nat) : Int) := (IntWalk.i64_in _ (by omega)).trans (by omega)
      clear hc hs hlt hi
      go_wp2_with fail
      refine CA.mono ?_
      rintro e w2 ⟨rfl, ⟨lv2, hnv⟩, hx⟩
      have HV2 := Lib.hid hnv
      have HU2 : Hid (Ext w w2) := Lib.hid (HU.out.then hx (fun g hb hg => by have := HLO.out g hg; omega))
      clear CA hnv hx
      go_wp2_with fail
      have hlt := HLT.out
      go_roundw
      case rel => exact ⟨i + 1, lv2, by omega, by first | rfl | (simp <;> omega), by rw [HTK.out]; exact HV2.out, HU2.out⟩
      case measure => simp [RowKit.intOf] <;> omega
    · have hlti : ¬ (i : Int) < n := by omega
      have HF : Hid (NvAt w.heap.size wr lb lv ls) := Lib.hid (by
        have hin : i = ls.length := by have := HN.out; omega
        have h9 := HV.out
        rwa [hin, List.take_length] at h9)
      clear hi
      go_wp2_with fail
      go_ret
      exact ⟨lb, rfl, ⟨lv, HF.out⟩, HU.out⟩

/-- A store and a writer of a log. -/
structure SW (B : Nat) (w : World) (b mb wb : Nat) (tv : Value) (x : StD) (ls : List (List UInt8)) (ended : Bool) : Prop where
  st : StAt w b mb tv x
  lo : B ≤ b ∧ B ≤ mb ∧ B ≤ wb
  wr : ∃ ev vs, WrAt w wb (.pointer (some ⟨b, 0, none⟩)) oL ls.length (mthP (leafHs ls)) ev ended ∧ EgAt B w ev (edgesP ls) vs
theorem SW.ext {B : Nat} {w w' : World} {b mb wb : Nat} {tv : Value} {x : StD} {ls : List (List UInt8)} {ended : Bool} (h : SW B w b mb wb tv x ls ended) (u : Ext w w') : SW B w' b mb wb tv x ls ended := by
  obtain ⟨ev, vs, h1, h2⟩ := h.wr
  exact ⟨h.st.ext u, h.lo, ev, vs, h1.ext u, h2.ext u⟩
theorem root_len (ls : List (List UInt8)) : (mthP (leafHs ls)).length = 32 := mthP_len _ (leafHs_32 ls)
theorem edges_E32 (ls : List (List UInt8)) : E32 (edgesP ls) := by
  have hf := edgesP_fits ls
  refine getD_E32 fun k => ⟨fits_lt hf k, ?_⟩
  unfold edgesP
  rw [edges_lvl]
  unfold restL
  exact (lvl_32 ls k).drop _
/-- Of these blocks none holds what a naive log or a row of texts has. -/
theorem three_not {B : Nat} {w : World} {b mb wb : Nat} {tv : Value} {x : StD} {ls : List (List UInt8)} {ended : Bool} (h : SW B w b mb wb tv x ls ended) {g : Nat} {cs : Array Value} {t : TypeId} {f : Nat × Nat} (hg : w.heap[g]? = some (.cells cs t f)) (h1 : t ≠ 51) (h2 : t ≠ 35) : ¬ three b mb wb g := fun hs => by
  obtain ⟨ev, vs, hw, _⟩ := h.wr
  obtain ⟨es, c, hm⟩ := h.st.tex.blk
  rcases hs with e | e | e
  · rw [e, h.st.blk] at hg; simp at hg; exact h1 hg.2.1.symm
  · rw [e, hm] at hg; cases hg
  · rw [e, hw.blk] at hg; simp at hg; exact h2 hg.2.1.symm
theorem NvAt.three {B B' : Nat} {w w' : World} {b mb wb lb : Nat} {tv lv : Value} {x : StD} {ls D : List (List UInt8)} {ended : Bool} (V : NvAt B' w lb lv D) (h : SW B w b mb wb tv x ls ended) (u : Upd (three b mb wb) w w') : NvAt B' w' lb lv D :=
  V.upd u (three_not h V.blk (by decide) (by decide)) (fun g hg => by
    obtain ⟨c, hc⟩ := row_type V.row hg
    exact three_not h hc (by decide) (by decide))
theorem row_three {B B' n : Nat} {w w' : World} {b mb wb : Nat} {tv v : Value} {x : StD} {ls : List (List UInt8)} {xs : List Value} {ended : Bool} (R : w.ownsRow B' 9 1 v n xs) (h : SW B w b mb wb tv x ls ended) (u : Upd (three b mb wb) w w') : w'.ownsRow B' 9 1 v n xs :=
  rows_upd R u (fun g hg => by
    obtain ⟨c, hc⟩ := row_type R hg
    exact three_not h hc (by decide) (by decide))
/-- A store that goes on. -/
structure Live (x : StD) (ls : List (List UInt8)) : Prop where
  h : Holds x.texts oL ls
  d : x.dead = false
  c : x.crash = 0
  r : x.rs = []
  t : x.texts.length ≤ x.nw
set_option maxHeartbeats 2000000 in
theorem sw_create {B b mb : Nat} {se : Nat → Addr} {tv : Value} {w : World} (E : Env B se w) (H : StAt w b mb tv ⟨[], [], 0, 0, 0, false⟩) (hB : B ≤ b) (hM : B ≤ mb) :
    Calls Tryz.prog 15 #[.pointer (some ⟨b, 0, none⟩), .string (str oL)] w fun e w' => ∃ wb x, e = .returned (.tuple #[.pointer (some ⟨wb, 0, none⟩), .nilIface]) ∧ SW B w' b mb wb tv x [] false ∧ Live x [] ∧ x.nw = 1 ∧ Upd (two b mb) w w' ∧ w.heap.size ≤ wb := by
  have hp : StD.put ⟨[], [], 0, 0, 0, false⟩ (str headB) (str (ckptB oL 0 emptyH)) = (⟨[(str headB, str (ckptB oL 0 emptyH))], [], 0, 0, 1, false⟩, none) := by
    have h9 := put_fine (x := ⟨[], [], 0, 0, 0, false⟩) rfl (p := (str headB, str (ckptB oL 0 emptyH))) (show 1 ≤ (str headB).size ∧ (str headB).size ≤ 256 by decide) (show (0 : Int) ≠ ((0 : Nat) : Int) + 1 by decide) (show (0 : Int) ≠ -(((0 : Nat) : Int) + 1) by decide)
    exact h9
  refine (create_ok E H hB hM oL name_log (by decide) (by decide) (has_none _ _ _ _ _) (by decide) emptyH rfl).mono ?_
  rintro e w' ⟨h1, h2, h3⟩
  rw [hp] at h1 h3
  obtain ⟨wb, rfl, hw, hlo⟩ := h3
  have hsz := E.g.size
  refine ⟨wb, _, rfl, ⟨h1, ⟨hB, hM, Nat.le_trans hsz hlo⟩, .slice none 0 0, [], hw, ⟨World.ownsRow_nil _ _ _ _, fun k => World.ownsRow_nil _ _ _ _⟩⟩, ⟨holds_nil oL emptyH rfl, rfl, rfl, rfl, Nat.le_refl _⟩, rfl, h2, hlo⟩
theorem putTs_le : ∀ (ps : List (ByteArray × ByteArray)) (T : TxtL), (putTs T ps).length ≤ T.length + ps.length
  | [], T => Nat.le_refl _
  | p :: ps, T => by
    have h1 := putTs_le ps (putL T p.1 p.2)
    have h2 := putL_le T p.1 p.2
    show (putTs (putL T p.1 p.2) ps).length ≤ _
    rw [List.length_cons]
    omega
theorem app_fine {x : StD} {a b : List (List UInt8)} (h : Live x a) (hn : a.length + b.length ≤ 1048576) (hb : b ≠ []) :
    ∃ x', appR x oL a.length (edgesP a) b = (x', none) ∧ Live x' (a ++ b) ∧ x'.nw = x.nw + putsN a.length (a.length + b.length) ∧ x'.nr = x.nr := by
  rw [appR_all, puts_fine (allPuts oL a b) x h.d (nm_all oL a b hn) (fun j _ => by rw [h.c]; exact ⟨by omega, by omega⟩)]
  refine ⟨_, rfl, ⟨holds_all h.h hn, h.d, h.c, h.r, ?_⟩, by rw [← len_all oL a b hn hb], rfl⟩
  have h1 := putTs_le (allPuts oL a b) x.texts
  have h2 := h.t
  show (putTs x.texts (allPuts oL a b)).length ≤ x.nw + (allPuts oL a b).length
  omega
theorem putsN_le {n m : Nat} (hnm : n ≤ m) (hm : m ≤ 1048576) : putsN n m ≤ 1073741824 := by
  have h1 := allT_le hm 3
  have h2 : (newT n m).length ≤ (allT m 3).length := List.length_filter_le _ _
  unfold putsN
  split <;> omega
theorem long_no {ls : List (List UInt8)} (h : ∀ s ∈ ls, s.length ≤ 65536) : ls.any longS = false := by
  rw [List.any_eq_false]
  intro s hs
  have := h s hs
  unfold longS
  simp
  omega
set_option maxHeartbeats 2000000 in
theorem sw_append {B b mb wb : Nat} {se : Nat → Addr} {tv : Value} {x : StD} {w : World} {a ls : List (List UInt8)} (E : Env B se w) (H : SW B w b mb wb tv x a false) (L : Live x a) (A : Option Addr) (c : Nat) (hc : CellsAt w A (strC ls)) (hA : A = none ∨ ∃ g o, A = some ⟨g, o, none⟩) (hAn : ∀ ad, A = some ad → ad.block ≠ b ∧ ad.block ≠ mb ∧ ad.block ≠ wb) (h4 : ls.length ≤ 4096) (hn : a.length + ls.length ≤ 1048576) (hsz : ∀ s ∈ ls, s.length ≤ 65536) (hnw : x.nw ≤ 1099511627776) :
    Calls Tryz.prog 11 #[.pointer (some ⟨wb, 0, none⟩), .slice A ls.length c] w fun e w' => ∃ x', e = .returned (.tuple #[ckV oL (a ++ ls).length (mthP (leafHs (a ++ ls))), .nilIface]) ∧ SW B w' b mb wb tv x' (a ++ ls) false ∧ Live x' (a ++ ls) ∧ x'.nw = x.nw + putsN a.length (a.length + ls.length) ∧ x'.nr = x.nr ∧ Upd (three b mb wb) w w' := by
  obtain ⟨ev, vs, hw, he⟩ := H.wr
  by_cases hls : ls = []
  · subst hls
    refine (append_empty E hw (root_len a) (by simp at hn; omega) A c hA).mono ?_
    rintro e w' ⟨rfl, hx⟩
    have hp : putsN a.length (a.length + ([] : List (List UInt8)).length) = 0 := by unfold putsN; rw [if_pos (by simp)]
    rw [List.append_nil, hp]
    exact ⟨x, rfl, H.ext hx, L, rfl, rfl, hx.mono (fun _ _ h => h.elim)⟩
  · obtain ⟨x', hr, L', hw', hnr⟩ := app_fine (b := ls) L hn hls
    have hlen := List.length_pos_iff.2 hls
    refine (append_any E hw (root_len a) H.st H.lo.1 H.lo.2.1 H.lo.2.2 he (edgesP_fits a) (edges_E32 a) A ls c hc hA hAn hlen h4 hn (long_no hsz) name_log (by decide) hnw (Nat.le_trans L.t hnw)).mono ?_
    rintro e w' ⟨h1, h2, h3⟩
    rw [hr] at h1 h3
    obtain ⟨ev', vs', rfl, hw2, he2⟩ := h3
    have hE : (appG a.length (edgesP a) ls).es = edgesP (a ++ ls) := (addsP_es (leafHs ls) a.length (gr0 (edgesP a)) (edgesP_fits a)).trans (edgesP_app a ls)
    rw [hE] at he2
    rw [appG_root, ← List.length_append] at hw2
    rw [appG_root, ← List.length_append]
    exact ⟨x', rfl, ⟨h1, H.lo, ev', vs', hw2, he2⟩, L', by rw [List.length_append]; exact hw', hnr, h2⟩

set_option maxRecDepth 8000 in
set_option maxHeartbeats 4000000 in
theorem textsSize_g {w : World} {a : Option Addr} {l : List ByteArray} (h : TextsAt w a l) (ca : Nat) (hl : l.length ≤ 9223372036854775807) : Calls Tryz.prog 10 #[.slice a l.length ca] w fun e w' => ∃ z, e = .returned (.int .i64 z) ∧ w = w' := by
  have HH := Lib.hid h
  have HL := Lib.hid hl
  clear h hl
  go_enter Tryz.func10, Tryz.ntmps10
  go_wp2_with fail
  go_loopw [3, 4] (fun tv iv wr => ∃ (j : Nat) (z : Int), j ≤ l.length ∧ iv = .int .i64 j ∧ tv = .int .i64 z ∧ w = wr) (fun _ iv _ => l.length - (RowKit.intOf iv).toNat)
  case atStart => exact ⟨0, 0, by omega, rfl, rfl, rfl⟩
  case round =>
    obtain ⟨j, z, hj, rfl, rfl, rfl⟩ := hrel
    by_cases hlt : j < l.length
    · have hg := List.getElem?_eq_getElem hlt
      generalize l[j] = s at hg
      obtain ⟨h1, b, o, rfl, hc⟩ := HH.out j s hg
      have hlti : (j : Int) < l.length := by omega
      have HW := Lib.hid (show wrap64 ((j : Int) + 1) = ((j + 1 : Nat) : Int) by have := HL.out; unfold wrap64; omega)
      clear hg h1
      by_cases hz : z ≤ 1048576
      · go_wp2_with fail
        have hm4 : (RowKit.intOf (.int .i64 (wrap64 ((j : Int) + 1)))).toNat = j + 1 := by rw [HW.out]; simp [RowKit.intOf]
        refine ⟨⟨j + 1, _, by omega, by rw [HW.out], rfl, trivial⟩, ?_⟩
        have hm5 : (RowKit.intOf (.int .i64 (j : Int))).toNat = j := by simp [RowKit.intOf]
        show l.length - (RowKit.intOf (.int .i64 (wrap64 ((j : Int) + 1)))).toNat < l.length - (RowKit.intOf (.int .i64 (j : Int))).toNat
        rw [hm4, hm5]; omega
      · go_wp2_with fail
        go_ret
        exact ⟨⟨_, rfl⟩, rfl⟩
    · have hlti : ¬ (j : Int) < l.length := by omega
      go_wp2_with fail
      go_ret
      exact ⟨⟨_, rfl⟩, rfl⟩
set_option maxHeartbeats 4000000 in
theorem beyond_two_g (b : Nat) (y z : Int) (w : World) (hb : w.heap[b]? = some (.cells #[.int .i64 y, .int .i64 z] 3 (0, 0))) : Calls Tryz.prog 9 #[.slice (some ⟨b, 0, none⟩) 2 2] w fun e w' => ∃ r : Bool, e = .returned (.bool r) ∧ w = w' := by
  have c0 : w.cell? ⟨b, 0, none⟩ = some (.int .i64 y) := cell_of_blk hb 0
  have c1 : w.cell? ⟨b, 1, none⟩ = some (.int .i64 z) := cell_of_blk hb 1
  clear hb
  go_enter Tryz.func9, Tryz.ntmps9
  go_wp2_with fail
  go_loopw [3, 4] (fun tv iv wr => ∃ (j : Nat) (t : Int), j ≤ 2 ∧ iv = .int .i64 j ∧ tv = .int .i64 t ∧ w = wr) (fun _ iv _ => 2 - (RowKit.intOf iv).toNat)
  case atStart => exact ⟨0, 0, by omega, rfl, rfl, rfl⟩
  case round =>
    obtain ⟨j, t, hj, rfl, rfl, rfl⟩ := hrel
    rcases (show j = 0 ∨ j = 1 ∨ j = 2 by omega) with rfl | rfl | rfl
    · by_cases hg : (1048576 : Int) < wrap64 (t + y)
      · go_wp2_with fail
        go_ret
        exact ⟨_, rfl, rfl⟩
      · go_wp2_with fail
        exact ⟨⟨1, _, by omega, rfl, rfl, trivial⟩, by simp [RowKit.intOf]⟩
    · by_cases hg : (1048576 : Int) < wrap64 (t + z)
      · go_wp2_with fail
        go_ret
        exact ⟨_, rfl, rfl⟩
      · go_wp2_with fail
        exact ⟨⟨2, _, by omega, rfl, rfl, trivial⟩, by simp [RowKit.intOf]⟩
    · go_wp2_with fail
      go_ret
      exact ⟨_, rfl, rfl⟩
theorem texts_own25 {w : World} {B : Nat} {A : Option Addr} {cap n : Nat} {l : List (List UInt8)} (h : w.ownsRow B 9 1 (.slice A n cap) n (l.map encStr)) (hl : ∀ x ∈ l, x.length ≤ 9223372036854775807) : TextsAt w A (strs l) := fun i s hs => by
  unfold strs at hs
  rw [List.getElem?_map] at hs
  cases hq : l[i]? with
  | none => rw [hq] at hs; cases hs
  | some x =>
    rw [hq] at hs
    obtain rfl := Option.some.inj hs
    obtain ⟨g, rfl⟩ : ∃ g, A = some ⟨g, 0, none⟩ := by
      rcases own_form h with ⟨_, h0⟩ | ⟨g, c9, h9, _⟩
      · have h1 := h.1
        have h2 := (List.getElem?_eq_some_iff.1 hq).1
        simp at h1; omega
      · simp only [Value.slice.injEq, true_and] at h9; exact ⟨g, h9.1⟩
    refine ⟨by have := hl x (List.mem_of_getElem? hq); simpa [ByteArray.size] using this, g, 0, rfl, ?_⟩
    have h9 := h.cells (g := g) rfl i (encStr x) (by rw [List.getElem?_map, hq]; rfl)
    rw [Addr.add_lit] at h9
    exact h9
theorem addr_at25 (g off k : Nat) : (⟨g, off, none⟩ : Addr).add k = ⟨g, off + k, none⟩ := by unfold Addr.add; split <;> simp_all
theorem sl_part {w : World} {B c n : Nat} {A : Option Addr} {D : List (List UInt8)} (h : w.ownsRow B 9 1 (.slice A n c) n (D.map encStr)) (hn : n = D.length) {k t : Nat} (hk : k ≤ t) (ht : t ≤ n) :
    ∃ A' : Option Addr, (∀ (o : Oper) (a : Act) (w7 : World) (x ix iy : Operand), o.op = .slice 22 x (some ix) (some iy) none → a.eval x = .slice A n c → a.eval ix = .int .i64 k → a.eval iy = .int .i64 t → (execOp a.eval o).run Tryz.prog w7 = .ok (.value (.slice A' (t - k) (c - k))) w7) ∧
      CellsAt w A' (strC ((D.drop k).take (t - k))) ∧ (A' = none ∨ ∃ g o, A' = some ⟨g, o, none⟩) ∧ ∀ ad, A' = some ad → (Value.slice A n c).ownBlock = some ad.block := by
  obtain ⟨i0, hi0, hz0, hz1, hz2⟩ := info_parts info_strN
  rcases own_form h with ⟨h9, h0⟩ | ⟨g, c9, h9, hc9⟩
  · simp only [Value.slice.injEq] at h9
    obtain ⟨rfl, h8, rfl⟩ := h9
    have hn0 : n = 0 := by simpa using h0
    subst hn0
    have hD : D = [] := List.length_eq_zero_iff.1 hn.symm
    subst hD
    obtain rfl : t = 0 := by omega
    obtain rfl : k = 0 := by omega
    refine ⟨none, fun o a w7 x ix iy ho hx h1 h2 => ?_, fun j u hu => by simp [strC] at hu, .inl rfl, fun ad e => by cases e⟩
    simp [execOp, ho, hx, h1, h2, Instr.sliceAt, Instr.slice, Instr.sliceBounds, Instr.sliceBound, run_underlying Tryz.underlying22, asIntOf, sizeOf, typeInfo, hi0, hz1]
  · simp only [Value.slice.injEq, true_and] at h9
    obtain ⟨rfl, rfl⟩ := h9
    have hcn : n ≤ c := by
      rcases h.2 with ⟨h8, _⟩ | ⟨g8, c8, cur, h8, _, _, h7, _⟩
      · cases h8
      · simp only [Value.slice.injEq, true_and] at h8
        rw [h8.2]
        exact h7
    refine ⟨if c = k then some ⟨g, 0, none⟩ else some ⟨g, k, none⟩, fun o a w7 x ix iy ho hx h1 h2 => ?_, fun j u hu => ?_, ?_, ?_⟩
    · have hk1 : (0 : Int) ≤ (k : Int) ∧ (k : Int) ≤ t := by omega
      have hk2 : (0 : Int) ≤ (t : Int) ∧ (t : Int) ≤ c := by omega
      have h3 := addr_at25 g 0 (k * 1)
      by_cases hck : c = k
      · subst hck
        simp [execOp, ho, hx, h1, h2, Instr.sliceAt, Instr.slice, Instr.sliceBounds, Instr.sliceBound, run_underlying Tryz.underlying22, asIntOf, sizeOf, typeInfo, hi0, hz1, hk1, hk2]
        rw [if_pos (show t ≤ c by omega), if_pos hk]
      · simp [execOp, ho, hx, h1, h2, Instr.sliceAt, Instr.slice, Instr.sliceBounds, Instr.sliceBound, run_underlying Tryz.underlying22, asIntOf, sizeOf, typeInfo, hi0, hz1, hk1, hk2, hck, addr_at25]
        rw [if_pos (show t ≤ c by omega), if_pos hk]
    · rw [List.getElem?_map] at hu
      cases hq : ((D.drop k).take (t - k))[j]? with
      | none => rw [hq] at hu; cases hu
      | some s =>
        rw [hq] at hu
        obtain rfl := Option.some.inj hu
        have hj := (List.getElem?_eq_some_iff.1 hq).1
        rw [List.length_take, List.length_drop] at hj
        rw [List.getElem?_take, if_pos (by omega), List.getElem?_drop] at hq
        have h9 := h.cells (g := g) rfl (k + j) (encStr s) (by rw [List.getElem?_map, hq]; rfl)
        rw [if_neg (by omega)]
        refine ⟨_, rfl, ?_⟩
        rw [addr_at25] at h9 ⊢
        rwa [Nat.zero_add] at h9
    · split
      · exact .inr ⟨g, 0, rfl⟩
      · exact .inr ⟨g, k, rfl⟩
    · intro ad e
      split at e <;> (cases e; rfl)
/-- No other block is the store's or its map's. -/
theorem two_not {w : World} {b mb : Nat} {tv : Value} {x : StD} (h : StAt w b mb tv x) {g : Nat} {cs : Array Value} {t : TypeId} {f : Nat × Nat} (hg : w.heap[g]? = some (.cells cs t f)) (h1 : t ≠ 51) : ¬ two b mb g := fun hs => by
  obtain ⟨es, c, hm⟩ := h.tex.blk
  rcases hs with e | e
  · rw [e, h.blk] at hg; simp at hg; exact h1 hg.2.1.symm
  · rw [e, hm] at hg; cases hg
theorem segH_take0 (D : List (List UInt8)) (t : Nat) : segH D 0 t = leafHs (D.take t) := by
  unfold segH leafHs
  rw [List.drop_zero, Nat.sub_zero, List.map_take]
theorem ckC_root (o : List UInt8) (n : Nat) (R : HB) (hr : R.length = 32) : ∀ j v, (R.map u8v)[j]? = some v → (ckC o n R)[2 + j]? = some v := fun j v hv => by
  have hj : j < 32 := by have := (List.getElem?_eq_some_iff.1 hv).1; rw [List.length_map, hr] at this; exact this
  unfold ckC
  rw [show 2 + j = j + 1 + 1 by omega, List.getElem?_cons_succ, List.getElem?_cons_succ, List.getElem?_append_left (by rw [List.length_map, hr]; exact hj)]
  exact hv
theorem ck_field1 : ∃ f : Field, (match Tryz.prog.underlying 32 with | some (.struct fs) => fs[1]? | _ => none) = some f ∧ f.type = 28 ∧ f.offset = 1 := by
  have h : ((match Tryz.prog.underlying 32 with | some (.struct fs) => fs[1]? | _ => none).map fun (f : Field) => (f.type, f.offset)) = some (28, 1) := by kernel_rfl
  cases hq : (match Tryz.prog.underlying 32 with | some (.struct fs) => fs[1]? | _ => none) with
  | none => rw [hq] at h; cases h
  | some f =>
    rw [hq] at h
    simp only [Option.map_some, Option.some.injEq, Prod.mk.injEq] at h
    exact ⟨f, rfl, h.1, h.2⟩
theorem run_field1 {op : Oper} {a : Act} (w : World) {x : Operand} (ho : op.op = .field 32 x 1) (n : Nat) (root : HB) (hx : a.eval x = ckV oL n root) : (execOp a.eval op).run Tryz.prog w = .ok (.value (.int .u64 n)) w := by
  obtain ⟨f, hf, h1, h2⟩ := ck_field1
  cases hu : Tryz.prog.underlying 32 with
  | none => rw [hu] at hf; cases hf
  | some d =>
    rw [hu] at hf
    cases d with
    | struct fs =>
      have hf : fs[1]? = some f := hf
      have hx2 : (ckC oL n root).toArray[1]? = some (.int .u64 n) := by unfold ckC; rfl
      have hp : (part 28 (ckC oL n root).toArray 1).run Tryz.prog w = .ok (.int .u64 n) w := by
        simp [part, isAgg, run_underlying Tryz.underlying28, hx2]
      have h9 : (Instr.field 32 (ckV oL n root) 1).run Tryz.prog w = .ok (.int .u64 n) w := by
        simp only [Instr.field, Sem.run_bind, run_underlying hu, Result.andThen_ok, hf, asAgg, ckV, Sem.run_pure, h1, h2, hp]
      simp only [execOp, ho, hx, Sem.run_bind, h9, Result.andThen_ok]
      rfl
    | _ => cases hf

/-- Behind some appends. -/
structure WwI (B B1 : Nat) (w : World) (b mb wb : Nat) (tv : Value) (lb : Nat) (lv v : Value) (x : StD) (D : List (List UInt8)) (k i : Nat) (se : Nat → Addr) : Prop where
  sw : SW B w b mb wb tv x (D.take k) false
  live : Live x (D.take k)
  nw : x.nw ≤ 1 + i * 1073741824
  nv : NvAt B1 w lb lv D
  rw : w.ownsRow B1 9 1 v D.length (D.map encStr)
  en : Env B se w
theorem WwI.ext {B B1 : Nat} {w w' : World} {b mb wb : Nat} {tv : Value} {lb : Nat} {lv v : Value} {x : StD} {D : List (List UInt8)} {k i : Nat} {se : Nat → Addr} (h : WwI B B1 w b mb wb tv lb lv v x D k i se) (u : Ext w w') : WwI B B1 w' b mb wb tv lb lv v x D k i se := ⟨h.sw.ext u, h.live, h.nw, h.nv.ext u, ownsRow_upd h.rw u (fun _ _ => id), h.en.ext u⟩
set_option maxRecDepth 20000 in
set_option maxHeartbeats 64000000 in
theorem whole_any25 {B : Nat} {se : Nat → Addr} {w : World} (E : Env B se w) {a ca : Option Addr} {ls : List (List UInt8)} {zs : List Int} (h : TextsAt w a (strs ls)) (hl : ls.length ≤ 9223372036854775807) (hz : RdsAt w ca zs) (c1 c2 : Nat) :
    Calls Tryz.prog 7 #[.slice a ls.length c1, .slice ca zs.length c2] w fun e w' => e = .returned (.bool true) ∧ Ext w w' := by
  have CA := alive25_any E
  have HE := Lib.hid E
  have HT := Lib.hid h
  have HL := Lib.hid hl
  have HZ := Lib.hid hz
  obtain ⟨n, hn⟩ : ∃ n, n = ls.length := ⟨_, rfl⟩
  have HN := Lib.hid hn
  obtain ⟨m, hm⟩ : ∃ m, m = zs.length := ⟨_, rfl⟩
  have HM := Lib.hid hm
  rw [← hn, ← hm]
  clear E h hl hz hn hm
  go_enter Tryz.func7, Tryz.ntmps7
  go_wp2_with fail
  refine CA.mono ?_
  rintro e w1 ⟨rfl, hx1⟩
  have HX1 := Lib.hid hx1
  have CT := textsSize_g (HT.out.later hx1) c1 (by rw [show (strs ls).length = ls.length by simp [strs]]; exact HL.out)
  rw [show (strs ls).length = ls.length by simp [strs], ← HN.out] at CT
  clear hx1 CA
  go_wp2_with fail
  refine CT.mono ?_
  rintro e w2 ⟨z, rfl, rfl⟩
  clear CT
  have HX2 := Lib.hid (HX1.out.alloc (.cells #[.int .i64 z, .int .i64 m] 3))
  have CB := beyond_two_g w1.heap.size z m (w1.alloc (.cells #[.int .i64 z, .int .i64 m] 3)) (blk_alloc _ _)
  go_wp2_with fail
  refine CB.mono ?_
  rintro e w3 ⟨r, rfl, hw3⟩
  clear CB
  generalize w1.alloc (.cells #[.int .i64 z, .int .i64 m] 3) = W2 at *
  subst hw3
  cases r with
  | true =>
    have CA := alive25_any (HE.out.ext HX2.out)
    go_wp2_with fail
    refine CA.mono ?_
    rintro e w4 ⟨rfl, hx⟩
    go_wp2_with fail
    go_ret
    exact ⟨rfl, HX2.out.trans hx⟩
  | false =>
    have CS := short_any (HT.out.later HX2.out) HL.out c1
    rw [← HN.out] at CS
    go_wp2_with fail
    refine CS.mono ?_
    rintro e w4 ⟨v, rfl, hown, hx⟩
    have HX4 := Lib.hid (HX2.out.trans hx)
    have HDL := Lib.hid (shortP_le ls)
    have HDS := Lib.hid (shortP_sz ls)
    have hlow := own_lowN hown HX2.out.size
    generalize shortP ls = D at *
    obtain ⟨dA, dc, rfl⟩ := own_sl hown
    have HO4 := Lib.hid hlow
    have CL := logged_any (texts_own25 hlow (fun x hx => by have := HDS.out x hx; omega)) HDS.out (by have := HDL.out; omega) dc
    obtain ⟨dn, hdn⟩ : ∃ dn, dn = D.length := ⟨_, rfl⟩
    have HDN := Lib.hid hdn
    rw [← hdn] at CL HO4 ⊢
    clear CS hown hx hlow hdn
    go_wp2_with fail
    refine CL.mono ?_
    rintro e w5 ⟨lb, lv, rfl, hnv, hx⟩
    have HV5 := Lib.hid (hnv.low HX4.out.size)
    have HO5 := Lib.hid (ownsRow_upd HO4.out hx (fun _ _ => id))
    have HX5 := Lib.hid (HX4.out.trans hx)
    have CF := fresh25_any w5 0
    clear CL hnv hx
    go_wp2_with fail
    refine CF.mono ?_
    rintro e w6 ⟨b, mb, tv, rfl, hst, hb, hmb, hx⟩
    have HX6 := Lib.hid (HX5.out.trans hx)
    have HV6 := Lib.hid (HV5.out.ext hx)
    have HO6 := Lib.hid (ownsRow_upd HO5.out hx (fun _ _ => id))
    have hBs := HE.out.g.size
    have HBB : Hid (w.heap.size ≤ b ∧ w.heap.size ≤ mb) := Lib.hid ⟨by have := HX5.out.size; omega, by have := HX5.out.size; omega⟩
    have HE6 := Lib.hid (HE.out.ext HX6.out)
    have HST6 := Lib.hid hst
    have CC := sw_create HE6.out hst (by have := HBB.out; omega) (by have := HBB.out; omega)
    change Calls _ _ #[_, .string ⟨#[108, 111, 103]⟩] _ _ at CC
    clear CF hst hb hmb hx
    go_wp2_with fail
    refine CC.mono ?_
    rintro e w7 ⟨wb, x, rfl, hsw, hlv, hnw, hu, hwb⟩
    have HI7 : Hid (WwI B w.heap.size w7 b mb wb tv lb lv (.slice dA D.length dc) x D 0 0 se) := Lib.hid (by
      have hbt : ∀ g c t, w6.heap[g]? = some (.cells c t (0, 0)) → t ≠ 51 → ¬ two b mb g := fun g c t hg ht => two_not HST6.out hg ht
      refine ⟨by rw [List.take_zero]; exact hsw, by rw [List.take_zero]; exact hlv, by omega, HV6.out.upd hu (hbt _ _ _ HV6.out.blk (by decide)) (fun g hg => by obtain ⟨c, hc⟩ := row_type HV6.out.row hg; exact hbt _ _ _ hc (by decide)), ?_, HE6.out.upd hu (fun g hg => by have h1 := HBB.out; rcases hg with e | e <;> (rw [e]; omega))⟩
      rw [← HDN.out]
      exact rows_upd HO6.out hu (fun g hg => by obtain ⟨c, hc⟩ := row_type HO6.out hg; exact hbt _ _ _ hc (by decide)))
    have HX7 : Hid (Ext w w7) := Lib.hid (HX6.out.then hu (fun g hg e => by have h1 := HBB.out; rcases e with e | e <;> omega))
    have HWB := Lib.hid (show w.heap.size ≤ wb by have := HX6.out.size; omega)
    clear CC hsw hlv hnw hu hwb hBs
    go_wp2_with fail
    go_loopw [10, 11, 12, 13, 14, 15, 16, 17, 18, 19, 20] (fun fv iv _ _ _ _ _ _ _ _ _ wr => ∃ (i k : Nat) (x : StD), iv = .int .i64 i ∧ fv = .int .i64 k ∧ i ≤ 40 ∧ i ≤ m + 1 ∧ k ≤ dn ∧ ((i = m + 1 ∨ i = 40) → k = dn) ∧ WwI B w.heap.size wr b mb wb tv lb lv (.slice dA D.length dc) x D k i se ∧ Ext w wr) (fun _ iv _ _ _ _ _ _ _ _ _ _ => 40 - (RowKit.intOf iv).toNat)
    case atStart => exact ⟨0, 0, x, rfl, rfl, by omega, by omega, Nat.zero_le _, fun h => by rcases h with h | h <;> omega, HI7.out, HX7.out⟩
    case round =>
      obtain ⟨i, k, x, rfl, rfl, hi40, him, hkd, hend, hI, hxr⟩ := hrel
      have HI := Lib.hid hI
      have HXR := Lib.hid hxr
      have HEND := Lib.hid hend
      clear hI hxr hend
      by_cases hgo : i ≤ m ∧ i < 40
      · have g1 : (i : Int) ≤ m := by have := hgo.1; omega
        have g2 : (i : Int) < 40 := by have := hgo.2; omega
        have HGO := Lib.hid hgo
        have HKD := Lib.hid hkd
        obtain ⟨t, htk, htd, hcase⟩ : ∃ t, k ≤ t ∧ t ≤ dn ∧ ((i < m ∧ i < 39 ∧ ∃ z, zs[i]? = some z ∧ min (max z (k : Int)) (dn : Int) = (t : Int)) ∨ (t = dn ∧ ¬ i < m) ∨ (t = dn ∧ i < m ∧ ¬ i < 39)) := by
          by_cases h1 : i < m
          · by_cases h2 : i < 39
            · have hzi : i < zs.length := by rw [← HM.out]; exact h1
              refine ⟨(min (max zs[i] (k : Int)) (dn : Int)).toNat, by omega, by omega, .inl ⟨h1, h2, zs[i], List.getElem?_eq_getElem hzi, by omega⟩⟩
            · exact ⟨dn, hkd, Nat.le_refl _, .inr (.inr ⟨rfl, h1, h2⟩)⟩
          · exact ⟨dn, hkd, Nat.le_refl _, .inr (.inl ⟨rfl, h1⟩)⟩
        have HTK := Lib.hid (And.intro htk htd)
        have HCASE := Lib.hid (show (i + 1 = m + 1 ∨ i + 1 = 40) → t = dn from fun h => by
          rcases hcase with ⟨h1, h2, _⟩ | ⟨h1, _⟩ | ⟨h1, _, _⟩
          · omega
          · exact h1
          · exact h1)
        have CN1 := counts_any HI.out.sw.st
        have hdn6 : dn ≤ 600 := by rw [HDN.out]; exact HDL.out
        have HD6 := Lib.hid hdn6
        obtain ⟨A', hsl, hcells, hA1, hA2⟩ := sl_part HI.out.rw rfl htk (by rw [← HDN.out]; exact htd)
        rw [← HDN.out] at hsl
        have HSLI := Lib.hid hsl
        have HPT := Lib.hid (And.intro hcells (And.intro hA1 hA2))
        have HGR := Lib.hid (nroot_any HI.out.nv t (by rw [← HDN.out]; exact htd) HI.out.en.sgw HI.out.en.sh)
        have hwt : IntKind.u64.wrap (t : Int) = t := by rw [IntKind.wrap_u64]; omega
        have hib : i < 40 := hgo.2
        clear hsl hcells hA1 hA2 hgo hi40 him hkd
        rcases hcase with ⟨h1, h2, z, hz, hmm⟩ | ⟨rfl, h1⟩ | ⟨rfl, h1, h2⟩
        · have t1 : (i : Int) < m := by omega
          have t2 : (i : Int) < 39 := by omega
          obtain ⟨zb, zo, rfl, hzc⟩ := HZ.out i z hz
          have hzr : wr.cell? ⟨zb, zo + i, none⟩ = some (.int .i64 z) := Ext.cellv HXR.out hzc
          clear hz hzc
          go_wp2_with fail
          refine CN1.mono ?_
          rintro e w8 ⟨rfl, hx⟩
          have HI8 := Lib.hid (HI.out.ext hx)
          have HX8 := Lib.hid (HXR.out.trans hx)
          have CAp := sw_append (ls := (D.drop k).take (t - k)) HI8.out.en HI8.out.sw HI8.out.live A' (dc - k) (HPT.out.1.ext hx) HPT.out.2.1 (fun ad e => by
            have hb9 := HPT.out.2.2 ad e
            obtain ⟨c9, hc9⟩ := row_type HI8.out.rw hb9
            have hn9 := three_not HI8.out.sw hc9 (by decide) (by decide)
            exact ⟨fun e9 => hn9 (.inl e9), fun e9 => hn9 (.inr (.inl e9)), fun e9 => hn9 (.inr (.inr e9))⟩) (by rw [List.length_take, List.length_drop]; have := HD6.out; have := HDN.out; omega) (by rw [List.length_take, List.length_take, List.length_drop]; have := HD6.out; have := HDN.out; omega) (fun s hs => HDS.out s (List.mem_of_mem_drop (List.mem_of_mem_take hs))) (by have := HI8.out.nw; have := HGO.out.2; omega)
          have HAB : Hid (D.take k ++ (D.drop k).take (t - k) = D.take t) := Lib.hid (by
            have h9 := List.take_add (l := D) (i := k) (j := t - k)
            rw [show k + (t - k) = t by have := HTK.out; omega] at h9
            exact h9.symm)
          have HLT2 : Hid (((D.drop k).take (t - k)).length = t - k ∧ (D.take k).length = k ∧ (D.take t).length = t) := Lib.hid ⟨by rw [List.length_take, List.length_drop]; have := HTK.out; have := HDN.out; omega, by rw [List.length_take]; have := HTK.out; have := HDN.out; omega, by rw [List.length_take]; have := HTK.out; have := HDN.out; omega⟩
          rw [HAB.out, HLT2.out.1, HLT2.out.2.1, HLT2.out.2.2, show k + (t - k) = t by have := HTK.out; omega] at CAp
          have HR32 := Lib.hid (root_len (D.take t))
          obtain ⟨R, hR⟩ : ∃ R, R = mthP (leafHs (D.take t)) := ⟨_, rfl⟩
          have HR := Lib.hid hR
          rw [← hR] at CAp HR32
          have HCKS := Lib.hid (ck_size oL t R HR32.out)
          have HCK1 := Lib.hid (ck_one oL t R)
          have HZL := Lib.hid (show zckA.toList.length = (ckC oL t R).length by rw [ck_len oL t R HR32.out]; rfl)
          clear CN1 hx hR
          go_wp2_with (refine wpList_run rfl (HSLI.out _ _ _ _ _ _ rfl rfl rfl rfl) ?_)
          refine CAp.mono ?_
          rintro e w9 ⟨x9, rfl, hsw, hlv, hnw, hnr, hu⟩
          have HNV9 := Lib.hid (HI8.out.nv.three HI8.out.sw hu)
          have HRW9 := Lib.hid (row_three HI8.out.rw HI8.out.sw hu)
          have HEN9 : Hid (Env B se w9) := Lib.hid (HI8.out.en.upd hu (fun g hg => by have h1 := HI8.out.sw.lo; rcases hg with e | e | e <;> (rw [e]; omega)))
          have HX9 : Hid (Ext w w9) := Lib.hid (HX8.out.then hu (fun g hg e => by have h1 := HBB.out; have h2 := HWB.out; rcases e with e | e | e <;> omega))
          have HSW9 := Lib.hid hsw
          have HLV9 := Lib.hid hlv
          have HNW9 := Lib.hid (And.intro hnw hnr)
          have HQA := Lib.hid (blk_alloc w9 (.cells zckA 32))
          clear CAp hsw hlv hnw hnr hu
          go_wp2_with (refine wpList_storeAgg rfl 32 _ _ rfl w9.heap.size 0 rfl (ckC oL t R) rfl HCKS.out zckA.toList 32 HQA.out (by rw [HZL.out]; exact Nat.le_of_eq (Nat.zero_add _)) HCK1.out ?_)
          rw [show over zckA.toList 0 (ckC oL t R) = ckC oL t R from over_all _ _ HZL.out]
          have HQW := Lib.hid (blk_setRow HQA.out (ckC oL t R).toArray)
          have HXU : Hid (Ext w9 ((w9.alloc (.cells zckA 32)).setRow w9.heap.size (ckC oL t R).toArray)) := Lib.hid (((Upd.refl none' w9).alloc (.cells zckA 32)).setRow (.inl (Nat.le_refl _)) _)
          obtain ⟨cb, hcb⟩ : ∃ g, g = w9.heap.size := ⟨_, rfl⟩
          rw [← hcb] at HQW HXU ⊢
          generalize (w9.alloc (.cells zckA 32)).setRow cb (ckC oL t R).toArray = U at *
          have CN2 := counts_any (HSW9.out.ext HXU.out).st
          clear hcb HQA
          go_wp2_with fail
          refine CN2.mono ?_
          rintro e w10 ⟨rfl, hx⟩
          have HX10 := Lib.hid (HXU.out.trans hx)
          have HU10 : Hid (Ext U w10) := Lib.hid hx
          have CRt := nroot_any (HNV9.out.ext HX10.out) t (by rw [← HDN.out]; exact HTK.out.2) (HEN9.out.ext HX10.out).sgw (HEN9.out.ext HX10.out).sh
          rw [segH_take0, ← HR.out] at CRt
          clear CN2 hx
          go_wp2_with fail
          refine CRt.mono ?_
          rintro e w11 ⟨rfl, hx⟩
          have HX11 := Lib.hid (HX10.out.trans hx)
          have HQB := Lib.hid (blk_alloc w11 (.cells zero32 30))
          have HSL := Lib.hid (hash_size32 R HR32.out)
          have HU11 : Hid (Ext U w11) := Lib.hid (HU10.out.trans hx)
          clear CRt hx
          go_upto_region 22 with (refine wpList_storeAgg rfl 30 _ _ rfl w11.heap.size 0 rfl (R.map u8v) rfl HSL.out zero32.toList 30 HQB.out (by rw [List.length_map, HR32.out]; exact Nat.le_refl _) (u8_ones R) ?_)
          rw [show over zero32.toList 0 (R.map u8v) = R.map u8v from over_all _ _ (by rw [List.length_map, HR32.out]; rfl)]
          have HQV := Lib.hid (blk_setRow HQB.out (R.map u8v).toArray)
          have HXV : Hid (Ext w11 ((w11.alloc (.cells zero32 30)).setRow w11.heap.size (R.map u8v).toArray)) := Lib.hid (((Upd.refl none' w11).alloc (.cells zero32 30)).setRow (.inl (Nat.le_refl _)) _)
          obtain ⟨rb, hrb⟩ : ∃ g, g = w11.heap.size := ⟨_, rfl⟩
          rw [← hrb] at HQV HXV ⊢
          generalize (w11.alloc (.cells zero32 30)).setRow rb (R.map u8v).toArray = V at *
          have HRB : Hid (∀ j u, (R.map u8v)[j]? = some u → V.cell? ⟨rb, 0 + j, none⟩ = some u) := Lib.hid (blk_cells HQV.out)
          have HCV := Lib.hid (Ext.blk (HU11.out.trans HXV.out) HQW.out)
          have HCB : Hid (∀ j u, (R.map u8v)[j]? = some u → V.cell? ⟨cb, 2 + j, none⟩ = some u) := Lib.hid (fun j u hu => by
            have h9 := blk_cells HCV.out (2 + j) u (ckC_root oL t R HR32.out j u hu)
            rwa [Nat.zero_add] at h9)
          have p0 : V.cell? ⟨cb, 0, none⟩ = some (.string ⟨#[108, 111, 103]⟩) := cell_of_blk HCV.out 0
          have p1 : V.cell? ⟨cb, 1, none⟩ = some (.int .u64 t) := cell_of_blk HCV.out 1
          have CPU := puts_any25 V k t HTK.out.1 (by have h1 := HTK.out.2; have h2 := HD6.out; omega)
          have hpl := putsN_le HTK.out.1 (show t ≤ 1048576 by have h1 := HTK.out.2; have h2 := HD6.out; omega)
          have hxn := HI8.out.nw
          have hi40 := HGO.out.2
          have hsub : IntKind.i64.wrap ((x9.nw : Int) - x.nw) = putsN k t := (IntWalk.i64_in _ (by rw [HNW9.out.1]; omega)).trans (by rw [HNW9.out.1]; omega)
          have HPL := Lib.hid hpl
          clear hrb HQB hpl
          go_wp2_with (first
            | (refine wpList_runG rfl (run_ldA _ rfl cb 2 rfl (R.map u8v) Tryz.underlying30 rfl HSL.out HCB.out) ?_)
            | (refine wpList_runG rfl (run_ldA _ rfl rb 0 rfl (R.map u8v) Tryz.underlying30 rfl HSL.out HRB.out) ?_)
            | (refine wpList_runG rfl (run_neqH0 _ rfl R rfl rfl HR32.out) ?_))
          refine CPU.mono ?_
          rintro e w13 ⟨rfl, hx⟩
          have HX13 := Lib.hid (((HX11.out.trans HXV.out)).trans hx)
          clear CPU hx p0 p1
          go_wp2_with fail
          have hgo := HGO.out
          have htk := HTK.out
          have hpl := HPL.out
          go_roundw
          case rel => exact ⟨i + 1, t, x9, by first | rfl | (simp <;> omega), rfl, by omega, by omega, htk.2, (fun h9 => by first | exact HCASE.out h9 | rfl), ⟨HSW9.out.ext HX13.out, HLV9.out, by rw [HNW9.out.1]; omega, HNV9.out.ext HX13.out, ownsRow_upd HRW9.out HX13.out (fun _ _ => id), HEN9.out.ext HX13.out⟩, HX9.out.trans HX13.out⟩
          case measure => simp [RowKit.intOf] <;> omega
        · have t1 : ¬ (i : Int) < m := by omega
          go_wp2_with fail
          refine CN1.mono ?_
          rintro e w8 ⟨rfl, hx⟩
          have HI8 := Lib.hid (HI.out.ext hx)
          have HX8 := Lib.hid (HXR.out.trans hx)
          have CAp := sw_append (ls := (D.drop k).take (t - k)) HI8.out.en HI8.out.sw HI8.out.live A' (dc - k) (HPT.out.1.ext hx) HPT.out.2.1 (fun ad e => by
            have hb9 := HPT.out.2.2 ad e
            obtain ⟨c9, hc9⟩ := row_type HI8.out.rw hb9
            have hn9 := three_not HI8.out.sw hc9 (by decide) (by decide)
            exact ⟨fun e9 => hn9 (.inl e9), fun e9 => hn9 (.inr (.inl e9)), fun e9 => hn9 (.inr (.inr e9))⟩) (by rw [List.length_take, List.length_drop]; have := HD6.out; have := HDN.out; omega) (by rw [List.length_take, List.length_take, List.length_drop]; have := HD6.out; have := HDN.out; omega) (fun s hs => HDS.out s (List.mem_of_mem_drop (List.mem_of_mem_take hs))) (by have := HI8.out.nw; have := HGO.out.2; omega)
          have HAB : Hid (D.take k ++ (D.drop k).take (t - k) = D.take t) := Lib.hid (by
            have h9 := List.take_add (l := D) (i := k) (j := t - k)
            rw [show k + (t - k) = t by have := HTK.out; omega] at h9
            exact h9.symm)
          have HLT2 : Hid (((D.drop k).take (t - k)).length = t - k ∧ (D.take k).length = k ∧ (D.take t).length = t) := Lib.hid ⟨by rw [List.length_take, List.length_drop]; have := HTK.out; have := HDN.out; omega, by rw [List.length_take]; have := HTK.out; have := HDN.out; omega, by rw [List.length_take]; have := HTK.out; have := HDN.out; omega⟩
          rw [HAB.out, HLT2.out.1, HLT2.out.2.1, HLT2.out.2.2, show k + (t - k) = t by have := HTK.out; omega] at CAp
          have HR32 := Lib.hid (root_len (D.take t))
          obtain ⟨R, hR⟩ : ∃ R, R = mthP (leafHs (D.take t)) := ⟨_, rfl⟩
          have HR := Lib.hid hR
          rw [← hR] at CAp HR32
          have HCKS := Lib.hid (ck_size oL t R HR32.out)
          have HCK1 := Lib.hid (ck_one oL t R)
          have HZL := Lib.hid (show zckA.toList.length = (ckC oL t R).length by rw [ck_len oL t R HR32.out]; rfl)
          clear CN1 hx hR
          go_wp2_with (refine wpList_run rfl (HSLI.out _ _ _ _ _ _ rfl rfl rfl rfl) ?_)
          refine CAp.mono ?_
          rintro e w9 ⟨x9, rfl, hsw, hlv, hnw, hnr, hu⟩
          have HNV9 := Lib.hid (HI8.out.nv.three HI8.out.sw hu)
          have HRW9 := Lib.hid (row_three HI8.out.rw HI8.out.sw hu)
          have HEN9 : Hid (Env B se w9) := Lib.hid (HI8.out.en.upd hu (fun g hg => by have h1 := HI8.out.sw.lo; rcases hg with e | e | e <;> (rw [e]; omega)))
          have HX9 : Hid (Ext w w9) := Lib.hid (HX8.out.then hu (fun g hg e => by have h1 := HBB.out; have h2 := HWB.out; rcases e with e | e | e <;> omega))
          have HSW9 := Lib.hid hsw
          have HLV9 := Lib.hid hlv
          have HNW9 := Lib.hid (And.intro hnw hnr)
          have HQA := Lib.hid (blk_alloc w9 (.cells zckA 32))
          clear CAp hsw hlv hnw hnr hu
          go_wp2_with (refine wpList_storeAgg rfl 32 _ _ rfl w9.heap.size 0 rfl (ckC oL t R) rfl HCKS.out zckA.toList 32 HQA.out (by rw [HZL.out]; exact Nat.le_of_eq (Nat.zero_add _)) HCK1.out ?_)
          rw [show over zckA.toList 0 (ckC oL t R) = ckC oL t R from over_all _ _ HZL.out]
          have HQW := Lib.hid (blk_setRow HQA.out (ckC oL t R).toArray)
          have HXU : Hid (Ext w9 ((w9.alloc (.cells zckA 32)).setRow w9.heap.size (ckC oL t R).toArray)) := Lib.hid (((Upd.refl none' w9).alloc (.cells zckA 32)).setRow (.inl (Nat.le_refl _)) _)
          obtain ⟨cb, hcb⟩ : ∃ g, g = w9.heap.size := ⟨_, rfl⟩
          rw [← hcb] at HQW HXU ⊢
          generalize (w9.alloc (.cells zckA 32)).setRow cb (ckC oL t R).toArray = U at *
          have CN2 := counts_any (HSW9.out.ext HXU.out).st
          clear hcb HQA
          go_wp2_with fail
          refine CN2.mono ?_
          rintro e w10 ⟨rfl, hx⟩
          have HX10 := Lib.hid (HXU.out.trans hx)
          have HU10 : Hid (Ext U w10) := Lib.hid hx
          have CRt := nroot_any (HNV9.out.ext HX10.out) t (by rw [← HDN.out]; exact HTK.out.2) (HEN9.out.ext HX10.out).sgw (HEN9.out.ext HX10.out).sh
          rw [segH_take0, ← HR.out] at CRt
          clear CN2 hx
          go_wp2_with fail
          refine CRt.mono ?_
          rintro e w11 ⟨rfl, hx⟩
          have HX11 := Lib.hid (HX10.out.trans hx)
          have HQB := Lib.hid (blk_alloc w11 (.cells zero32 30))
          have HSL := Lib.hid (hash_size32 R HR32.out)
          have HU11 : Hid (Ext U w11) := Lib.hid (HU10.out.trans hx)
          clear CRt hx
          go_upto_region 22 with (refine wpList_storeAgg rfl 30 _ _ rfl w11.heap.size 0 rfl (R.map u8v) rfl HSL.out zero32.toList 30 HQB.out (by rw [List.length_map, HR32.out]; exact Nat.le_refl _) (u8_ones R) ?_)
          rw [show over zero32.toList 0 (R.map u8v) = R.map u8v from over_all _ _ (by rw [List.length_map, HR32.out]; rfl)]
          have HQV := Lib.hid (blk_setRow HQB.out (R.map u8v).toArray)
          have HXV : Hid (Ext w11 ((w11.alloc (.cells zero32 30)).setRow w11.heap.size (R.map u8v).toArray)) := Lib.hid (((Upd.refl none' w11).alloc (.cells zero32 30)).setRow (.inl (Nat.le_refl _)) _)
          obtain ⟨rb, hrb⟩ : ∃ g, g = w11.heap.size := ⟨_, rfl⟩
          rw [← hrb] at HQV HXV ⊢
          generalize (w11.alloc (.cells zero32 30)).setRow rb (R.map u8v).toArray = V at *
          have HRB : Hid (∀ j u, (R.map u8v)[j]? = some u → V.cell? ⟨rb, 0 + j, none⟩ = some u) := Lib.hid (blk_cells HQV.out)
          have HCV := Lib.hid (Ext.blk (HU11.out.trans HXV.out) HQW.out)
          have HCB : Hid (∀ j u, (R.map u8v)[j]? = some u → V.cell? ⟨cb, 2 + j, none⟩ = some u) := Lib.hid (fun j u hu => by
            have h9 := blk_cells HCV.out (2 + j) u (ckC_root oL t R HR32.out j u hu)
            rwa [Nat.zero_add] at h9)
          have p0 : V.cell? ⟨cb, 0, none⟩ = some (.string ⟨#[108, 111, 103]⟩) := cell_of_blk HCV.out 0
          have p1 : V.cell? ⟨cb, 1, none⟩ = some (.int .u64 t) := cell_of_blk HCV.out 1
          have CPU := puts_any25 V k t HTK.out.1 (by have h1 := HTK.out.2; have h2 := HD6.out; omega)
          have hpl := putsN_le HTK.out.1 (show t ≤ 1048576 by have h1 := HTK.out.2; have h2 := HD6.out; omega)
          have hxn := HI8.out.nw
          have hi40 := HGO.out.2
          have hsub : IntKind.i64.wrap ((x9.nw : Int) - x.nw) = putsN k t := (IntWalk.i64_in _ (by rw [HNW9.out.1]; omega)).trans (by rw [HNW9.out.1]; omega)
          have HPL := Lib.hid hpl
          clear hrb HQB hpl
          go_wp2_with (first
            | (refine wpList_runG rfl (run_ldA _ rfl cb 2 rfl (R.map u8v) Tryz.underlying30 rfl HSL.out HCB.out) ?_)
            | (refine wpList_runG rfl (run_ldA _ rfl rb 0 rfl (R.map u8v) Tryz.underlying30 rfl HSL.out HRB.out) ?_)
            | (refine wpList_runG rfl (run_neqH0 _ rfl R rfl rfl HR32.out) ?_))
          refine CPU.mono ?_
          rintro e w13 ⟨rfl, hx⟩
          have HX13 := Lib.hid (((HX11.out.trans HXV.out)).trans hx)
          clear CPU hx p0 p1
          go_wp2_with fail
          have hgo := HGO.out
          have htk := HTK.out
          have hpl := HPL.out
          go_roundw
          case rel => exact ⟨i + 1, t, x9, by first | rfl | (simp <;> omega), rfl, by omega, by omega, htk.2, (fun h9 => by first | exact HCASE.out h9 | rfl), ⟨HSW9.out.ext HX13.out, HLV9.out, by rw [HNW9.out.1]; omega, HNV9.out.ext HX13.out, ownsRow_upd HRW9.out HX13.out (fun _ _ => id), HEN9.out.ext HX13.out⟩, HX9.out.trans HX13.out⟩
          case measure => simp [RowKit.intOf] <;> omega
        · have t1 : (i : Int) < m := by omega
          have t2 : ¬ (i : Int) < 39 := by omega
          go_wp2_with fail
          refine CN1.mono ?_
          rintro e w8 ⟨rfl, hx⟩
          have HI8 := Lib.hid (HI.out.ext hx)
          have HX8 := Lib.hid (HXR.out.trans hx)
          have CAp := sw_append (ls := (D.drop k).take (t - k)) HI8.out.en HI8.out.sw HI8.out.live A' (dc - k) (HPT.out.1.ext hx) HPT.out.2.1 (fun ad e => by
            have hb9 := HPT.out.2.2 ad e
            obtain ⟨c9, hc9⟩ := row_type HI8.out.rw hb9
            have hn9 := three_not HI8.out.sw hc9 (by decide) (by decide)
            exact ⟨fun e9 => hn9 (.inl e9), fun e9 => hn9 (.inr (.inl e9)), fun e9 => hn9 (.inr (.inr e9))⟩) (by rw [List.length_take, List.length_drop]; have := HD6.out; have := HDN.out; omega) (by rw [List.length_take, List.length_take, List.length_drop]; have := HD6.out; have := HDN.out; omega) (fun s hs => HDS.out s (List.mem_of_mem_drop (List.mem_of_mem_take hs))) (by have := HI8.out.nw; have := HGO.out.2; omega)
          have HAB : Hid (D.take k ++ (D.drop k).take (t - k) = D.take t) := Lib.hid (by
            have h9 := List.take_add (l := D) (i := k) (j := t - k)
            rw [show k + (t - k) = t by have := HTK.out; omega] at h9
            exact h9.symm)
          have HLT2 : Hid (((D.drop k).take (t - k)).length = t - k ∧ (D.take k).length = k ∧ (D.take t).length = t) := Lib.hid ⟨by rw [List.length_take, List.length_drop]; have := HTK.out; have := HDN.out; omega, by rw [List.length_take]; have := HTK.out; have := HDN.out; omega, by rw [List.length_take]; have := HTK.out; have := HDN.out; omega⟩
          rw [HAB.out, HLT2.out.1, HLT2.out.2.1, HLT2.out.2.2, show k + (t - k) = t by have := HTK.out; omega] at CAp
          have HR32 := Lib.hid (root_len (D.take t))
          obtain ⟨R, hR⟩ : ∃ R, R = mthP (leafHs (D.take t)) := ⟨_, rfl⟩
          have HR := Lib.hid hR
          rw [← hR] at CAp HR32
          have HCKS := Lib.hid (ck_size oL t R HR32.out)
          have HCK1 := Lib.hid (ck_one oL t R)
          have HZL := Lib.hid (show zckA.toList.length = (ckC oL t R).length by rw [ck_len oL t R HR32.out]; rfl)
          clear CN1 hx hR
          go_wp2_with (refine wpList_run rfl (HSLI.out _ _ _ _ _ _ rfl rfl rfl rfl) ?_)
          refine CAp.mono ?_
          rintro e w9 ⟨x9, rfl, hsw, hlv, hnw, hnr, hu⟩
          have HNV9 := Lib.hid (HI8.out.nv.three HI8.out.sw hu)
          have HRW9 := Lib.hid (row_three HI8.out.rw HI8.out.sw hu)
          have HEN9 : Hid (Env B se w9) := Lib.hid (HI8.out.en.upd hu (fun g hg => by have h1 := HI8.out.sw.lo; rcases hg with e | e | e <;> (rw [e]; omega)))
          have HX9 : Hid (Ext w w9) := Lib.hid (HX8.out.then hu (fun g hg e => by have h1 := HBB.out; have h2 := HWB.out; rcases e with e | e | e <;> omega))
          have HSW9 := Lib.hid hsw
          have HLV9 := Lib.hid hlv
          have HNW9 := Lib.hid (And.intro hnw hnr)
          have HQA := Lib.hid (blk_alloc w9 (.cells zckA 32))
          clear CAp hsw hlv hnw hnr hu
          go_wp2_with (refine wpList_storeAgg rfl 32 _ _ rfl w9.heap.size 0 rfl (ckC oL t R) rfl HCKS.out zckA.toList 32 HQA.out (by rw [HZL.out]; exact Nat.le_of_eq (Nat.zero_add _)) HCK1.out ?_)
          rw [show over zckA.toList 0 (ckC oL t R) = ckC oL t R from over_all _ _ HZL.out]
          have HQW := Lib.hid (blk_setRow HQA.out (ckC oL t R).toArray)
          have HXU : Hid (Ext w9 ((w9.alloc (.cells zckA 32)).setRow w9.heap.size (ckC oL t R).toArray)) := Lib.hid (((Upd.refl none' w9).alloc (.cells zckA 32)).setRow (.inl (Nat.le_refl _)) _)
          obtain ⟨cb, hcb⟩ : ∃ g, g = w9.heap.size := ⟨_, rfl⟩
          rw [← hcb] at HQW HXU ⊢
          generalize (w9.alloc (.cells zckA 32)).setRow cb (ckC oL t R).toArray = U at *
          have CN2 := counts_any (HSW9.out.ext HXU.out).st
          clear hcb HQA
          go_wp2_with fail
          refine CN2.mono ?_
          rintro e w10 ⟨rfl, hx⟩
          have HX10 := Lib.hid (HXU.out.trans hx)
          have HU10 : Hid (Ext U w10) := Lib.hid hx
          have CRt := nroot_any (HNV9.out.ext HX10.out) t (by rw [← HDN.out]; exact HTK.out.2) (HEN9.out.ext HX10.out).sgw (HEN9.out.ext HX10.out).sh
          rw [segH_take0, ← HR.out] at CRt
          clear CN2 hx
          go_wp2_with fail
          refine CRt.mono ?_
          rintro e w11 ⟨rfl, hx⟩
          have HX11 := Lib.hid (HX10.out.trans hx)
          have HQB := Lib.hid (blk_alloc w11 (.cells zero32 30))
          have HSL := Lib.hid (hash_size32 R HR32.out)
          have HU11 : Hid (Ext U w11) := Lib.hid (HU10.out.trans hx)
          clear CRt hx
          go_upto_region 22 with (refine wpList_storeAgg rfl 30 _ _ rfl w11.heap.size 0 rfl (R.map u8v) rfl HSL.out zero32.toList 30 HQB.out (by rw [List.length_map, HR32.out]; exact Nat.le_refl _) (u8_ones R) ?_)
          rw [show over zero32.toList 0 (R.map u8v) = R.map u8v from over_all _ _ (by rw [List.length_map, HR32.out]; rfl)]
          have HQV := Lib.hid (blk_setRow HQB.out (R.map u8v).toArray)
          have HXV : Hid (Ext w11 ((w11.alloc (.cells zero32 30)).setRow w11.heap.size (R.map u8v).toArray)) := Lib.hid (((Upd.refl none' w11).alloc (.cells zero32 30)).setRow (.inl (Nat.le_refl _)) _)
          obtain ⟨rb, hrb⟩ : ∃ g, g = w11.heap.size := ⟨_, rfl⟩
          rw [← hrb] at HQV HXV ⊢
          generalize (w11.alloc (.cells zero32 30)).setRow rb (R.map u8v).toArray = V at *
          have HRB : Hid (∀ j u, (R.map u8v)[j]? = some u → V.cell? ⟨rb, 0 + j, none⟩ = some u) := Lib.hid (blk_cells HQV.out)
          have HCV := Lib.hid (Ext.blk (HU11.out.trans HXV.out) HQW.out)
          have HCB : Hid (∀ j u, (R.map u8v)[j]? = some u → V.cell? ⟨cb, 2 + j, none⟩ = some u) := Lib.hid (fun j u hu => by
            have h9 := blk_cells HCV.out (2 + j) u (ckC_root oL t R HR32.out j u hu)
            rwa [Nat.zero_add] at h9)
          have p0 : V.cell? ⟨cb, 0, none⟩ = some (.string ⟨#[108, 111, 103]⟩) := cell_of_blk HCV.out 0
          have p1 : V.cell? ⟨cb, 1, none⟩ = some (.int .u64 t) := cell_of_blk HCV.out 1
          have CPU := puts_any25 V k t HTK.out.1 (by have h1 := HTK.out.2; have h2 := HD6.out; omega)
          have hpl := putsN_le HTK.out.1 (show t ≤ 1048576 by have h1 := HTK.out.2; have h2 := HD6.out; omega)
          have hxn := HI8.out.nw
          have hi40 := HGO.out.2
          have hsub : IntKind.i64.wrap ((x9.nw : Int) - x.nw) = putsN k t := (IntWalk.i64_in _ (by rw [HNW9.out.1]; omega)).trans (by rw [HNW9.out.1]; omega)
          have HPL := Lib.hid hpl
          clear hrb HQB hpl
          go_wp2_with (first
            | (refine wpList_runG rfl (run_ldA _ rfl cb 2 rfl (R.map u8v) Tryz.underlying30 rfl HSL.out HCB.out) ?_)
            | (refine wpList_runG rfl (run_ldA _ rfl rb 0 rfl (R.map u8v) Tryz.underlying30 rfl HSL.out HRB.out) ?_)
            | (refine wpList_runG rfl (run_neqH0 _ rfl R rfl rfl HR32.out) ?_))
          refine CPU.mono ?_
          rintro e w13 ⟨rfl, hx⟩
          have HX13 := Lib.hid (((HX11.out.trans HXV.out)).trans hx)
          clear CPU hx p0 p1
          go_wp2_with fail
          have hgo := HGO.out
          have htk := HTK.out
          have hpl := HPL.out
          go_roundw
          case rel => exact ⟨i + 1, t, x9, by first | rfl | (simp <;> omega), rfl, by omega, by omega, htk.2, (fun h9 => by first | exact HCASE.out h9 | rfl), ⟨HSW9.out.ext HX13.out, HLV9.out, by rw [HNW9.out.1]; omega, HNV9.out.ext HX13.out, ownsRow_upd HRW9.out HX13.out (fun _ _ => id), HEN9.out.ext HX13.out⟩, HX9.out.trans HX13.out⟩
          case measure => simp [RowKit.intOf] <;> omega
      · have hkn : k = dn := HEND.out (by omega)
        subst hkn
        have HFIN := Lib.hid (show D.take k = D by rw [HDN.out, List.take_length])
        have HSW : Hid (SW B wr b mb wb tv x D false) := Lib.hid (by have h9 := HI.out.sw; rwa [HFIN.out] at h9)
        have HLV : Hid (Live x D) := Lib.hid (by have h9 := HI.out.live; rwa [HFIN.out] at h9)
        have CLI := lies_any25 HI.out.en HSW.out.st HSW.out.lo.1 HI.out.nv name_log (by decide) HLV.out.h
        change Calls _ _ #[_, _, .string ⟨#[108, 111, 103]⟩] _ _ at CLI
        have hk6 : k ≤ 600 := by rw [HDN.out]; exact HDL.out
        have hwk : IntKind.u64.wrap (k : Int) = k := by rw [IntKind.wrap_u64]; omega
        have hgo2 : ¬ (i : Int) ≤ m ∨ ¬ (i : Int) < 40 := by omega
        by_cases g1 : (i : Int) ≤ m
        · have g2 : ¬ (i : Int) < 40 := by omega
          go_wp2_with fail
          refine CLI.mono ?_
          rintro e w8 ⟨rfl, hu⟩
          have HX8 : Hid (Ext w w8) := Lib.hid (HXR.out.then hu (fun g hg e => by have h1 := HBB.out.1; have e9 : g = b := e; omega))
          obtain ⟨ev, vs, hw, _⟩ := HSW.out.wr
          have hw8 := hw.upd hu (fun e => by
            have h9 := hw.blk
            rw [show wb = b from e, HSW.out.st.blk] at h9
            simp at h9)
          have CK := ckp_any hw8 (root_len D)
          rw [← HDN.out] at CK
          have HRL := Lib.hid (root_len D)
          clear CLI hu hw hw8
          go_wp2_with fail
          refine CK.mono ?_
          rintro e w9 ⟨rfl, hx⟩
          have HX9 := Lib.hid (HX8.out.trans hx)
          clear CK hx
          go_wp2_with (refine wpList_runG rfl (run_field1 _ rfl k (mthP (leafHs D)) rfl) ?_)
          go_ret
          exact ⟨rfl, HX9.out⟩
        · go_wp2_with fail
          refine CLI.mono ?_
          rintro e w8 ⟨rfl, hu⟩
          have HX8 : Hid (Ext w w8) := Lib.hid (HXR.out.then hu (fun g hg e => by have h1 := HBB.out.1; have e9 : g = b := e; omega))
          obtain ⟨ev, vs, hw, _⟩ := HSW.out.wr
          have hw8 := hw.upd hu (fun e => by
            have h9 := hw.blk
            rw [show wb = b from e, HSW.out.st.blk] at h9
            simp at h9)
          have CK := ckp_any hw8 (root_len D)
          rw [← HDN.out] at CK
          have HRL := Lib.hid (root_len D)
          clear CLI hu hw hw8
          go_wp2_with fail
          refine CK.mono ?_
          rintro e w9 ⟨rfl, hx⟩
          have HX9 := Lib.hid (HX8.out.trans hx)
          clear CK hx
          go_wp2_with (refine wpList_runG rfl (run_field1 _ rfl k (mthP (leafHs D)) rfl) ?_)
          go_ret
          exact ⟨rfl, HX9.out⟩
end Go.Proofs.YtnkcfkjeeennmaaGreatDoor
