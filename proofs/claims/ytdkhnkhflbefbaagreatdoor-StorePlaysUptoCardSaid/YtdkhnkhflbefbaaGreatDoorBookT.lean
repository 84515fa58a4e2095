/- A Book's texts: they are written over by marks, more is put behind each, and all are looked at. -/
import Derived.Test.YtdkhnkhflbefbaaGreatDoorBook
namespace Go.Proofs.YtdkhnkhflbefbaaGreatDoor
open Go.RowKit Go.Lib

theorem size_str1 : (Tryz.prog.info? 9).map (·.size) = some 1 := by kernel_rfl
theorem held_size : (Tryz.prog.info? 111).map (·.size) = some 3 := by kernel_rfl
theorem body_markText : hasBody Tryz.prog 96 = true := by kernel_rfl
theorem body_isText : hasBody Tryz.prog 111 = true := by kernel_rfl
section
variable {P : Program} {l : List Oper} {w0 : World} {se : Nat → Addr} {F : List (Value ⊕ EV)} {a0 : Act} {i : Nat} {o : Oper}
theorem ty_indexSlice1 {x ix : Operand} {t : TypeId} (g len cap k : Nat) (e : TypeId) (hg : Gd l se F a0 o) (ho : o.op = .indexAddr t x ix) (hF : F[i]? = some (.inl (.pointer (some ⟨g, k, none⟩)))) (hx : Kn l se F a0 o x (.slice (some ⟨g, 0, none⟩) len cap)) (hi : Kn l se F a0 o ix (.int .i64 k)) (hk : k < len)
    (hu : P.underlying t = some (.slice e)) (hs : (P.info? e).map (·.size) = some 1) : OpSpec P l w0 (Slots se F) a0 i o :=
  ty_indexSlice g 0 len cap k 1 e hg ho (by rw [hF, Nat.zero_add, Nat.mul_one]) hx hi hk hu hs
end
abbrev markT (num : Nat) : List Value := [.string (str (wordL num))]
theorem own_free {W : World} {B : Nat} {e : TypeId} {size : Nat} {v : Value} {n : Nat} {xs : List Value} (h : W.ownsRow B e size v n xs) {g : Nat} (hg : v.ownBlock = some g) (c : Nat) (hc : c < n * size) : W.frozen? ⟨g, c, none⟩ = false ∧ ∃ u, W.cell? ⟨g, c, none⟩ = some u := by
  rcases h.2 with ⟨hv, _⟩ | ⟨g', cap, cur, hv, hb, hgg, hnc, hcm, hcs, ht⟩
  · rw [hv] at hg; cases hg
  · rw [hv] at hg
    obtain rfl : g' = g := by simpa [Value.ownBlock] using hg
    refine ⟨free_of_blk hgg c, ?_⟩
    rw [cell_of_blk hgg]
    have : n * size ≤ cap * size := Nat.mul_le_mul_right _ hnc
    exact ⟨_, Array.getElem?_eq_getElem (by omega)⟩
/-- The texts that a Book holds. -/
structure HoldT (B : Nat) (W : World) (tv : Value) (L : List HeldD) (C : Nat → List Value) : Prop where
  row : W.ownsRow B 111 3 tv L.length (heldsL L)
  own : ∀ (i : Nat) h, L[i]? = some h → W.ownsRow B 9 1 h.v h.n (C i)
  sep : ∀ (i j : Nat) h h' g, L[i]? = some h → L[j]? = some h' → i ≠ j → h.v.ownBlock = some g → h'.v.ownBlock ≠ some g
section
variable {B : Nat} {W W' : World} {tv : Value} {L : List HeldD} {C : Nat → List Value}
theorem HoldT.upd {S : Nat → Prop} (h : HoldT B W tv L C) (u : Upd S W W') (hS : ∀ g, S g → ¬ listBs L g ∧ tv.ownBlock ≠ some g) : HoldT B W' tv L C :=
  ⟨ownsRow_upd h.row u (fun g hg hs => (hS g hs).2 hg), fun i hd hi => ownsRow_upd (h.own i hd hi) u (fun g hg hs => (hS g hs).1 ⟨i, hd, hi, hg⟩), h.sep⟩
theorem HoldT.ext (h : HoldT B W tv L C) (u : Ext W W') : HoldT B W' tv L C := h.upd u (fun _ hk => hk.elim)
theorem HoldT.apart (h : HoldT B W tv L C) {g : Nat} (hg : listBs L g) : tv.ownBlock ≠ some g := by
  obtain ⟨i, hd, hi, hg⟩ := hg
  exact own_apart (h.own i hd hi) h.row (by decide) hg
theorem HoldT.put (h : HoldT B W tv L C) {i g : Nat} {hd : HeldD} (hi : L[i]? = some hd) (hg : hd.v.ownBlock = some g) (k : Nat) (u : Value) : HoldT B (W.setCell ⟨g, k, none⟩ u) tv L (fun j => if j = i then (C i).set k u else C j) := by
  have U : Upd (one g) W (W.setCell ⟨g, k, none⟩ u) := (Upd.refl (one g) W).setCell (p := ⟨g, k, none⟩) (.inr rfl) u
  refine ⟨ownsRow_upd h.row U (fun g' hg' e => ?_), fun j hd' hj => ?_, h.sep⟩
  · obtain rfl : g' = g := e
    exact h.apart ⟨i, hd, hi, hg⟩ hg'
  · by_cases e : j = i
    · subst e
      rw [hi] at hj
      cases hj
      simp only [if_true]
      exact own_set (h.own _ _ hi) hg k u
    · simp only [if_neg e]
      refine ownsRow_upd (h.own j hd' hj) U (fun g' hg' e' => ?_)
      obtain rfl : g' = g := e'
      exact h.sep i j hd hd' g' hi hj (fun e2 => e e2.symm) hg hg'
end
theorem rep_set (k : Nat) (m d : Value) (D : List Value) : (repL k [m] ++ d :: D).set k m = repL (k + 1) [m] ++ D := by
  have hl : (repL k [m]).length = k := by rw [repL_len]; simp
  rw [List.set_append_right _ _ (by omega), hl, Nat.sub_self, List.set_cons_zero, repL_succ, List.append_assoc]
  rfl

set_option maxRecDepth 8000 in
set_option maxHeartbeats 4000000 in
theorem fillT_any {B b : Nat} {W : World} {tv : Value} {L : List HeldD} {C : Nat → List Value} (hb : W.cell? ⟨b, 3, none⟩ = some tv) (hbB : ¬ listBs L b) (H : HoldT B W tv L C) (T : Tab10 W) (hTB : ¬ listBs L 17)
    (hn : L.length ≤ 4000000) (hnn : ∀ (i : Nat) h, L[i]? = some h → h.n ≤ 1000000000 ∧ h.num ≤ 1000000000 ∧ h.long = .slice none 0 0) :
    Calls Tryz.prog 40 #[.pointer (some ⟨b, 0, none⟩)] W fun e W' => e = .returned (.tuple #[]) ∧ (∃ C', HoldT B W' tv L C' ∧ ∀ (i : Nat) h, L[i]? = some h → C' i = repL h.n (markT h.num)) ∧ Upd (listBs L) W W' := by
  obtain ⟨ta, tcap, rfl⟩ := own_slice H.row
  have HB := Lib.hid hb
  have HBB := Lib.hid hbB
  have HH0 := Lib.hid H
  have HT0 := Lib.hid T
  have HTB := Lib.hid hTB
  have HNN := Lib.hid hnn
  clear hbB H T hTB hnn
  go_enter Tryz.func40, Tryz.ntmps40
  go_wp2_with fail
  go_loopw [2] (fun iv wr => ∃ (i : Nat) (C : Nat → List Value), iv = .int .i64 i ∧ i ≤ L.length ∧ HoldT B wr (.slice ta L.length tcap) L C ∧ (∀ (j : Nat) h, j < i → L[j]? = some h → C j = repL h.n (markT h.num)) ∧ Upd (listBs L) W wr) (fun iv _ => L.length - (RowKit.intOf iv).toNat)
  case atStart => exact ⟨0, C, rfl, Nat.zero_le _, HH0.out, fun j h hj => by omega, Upd.refl _ _⟩
  case round =>
    obtain ⟨i, C, rfl, hi1, hh, hcj, hu⟩ := hrel
    have HH := Lib.hid hh
    have HCJ := Lib.hid hcj
    have HU := Lib.hid hu
    have cb : wr.cell? ⟨b, 3, none⟩ = some (.slice ta L.length tcap) := (Upd.cell hu (lt_of_cell HB.out) HBB.out).trans HB.out
    by_cases hlt : i < L.length
    · have hi := List.getElem?_eq_getElem hlt
      generalize L[i] = hd at hi
      obtain ⟨tg, tcap2, tcl, htv, _, htb, htc⟩ := own_at hh.row (by omega)
      simp only [Value.slice.injEq, true_and] at htv
      obtain ⟨rfl, rfl⟩ := htv
      have HROW := Lib.hid (fun (j : Nat) (u : Value) (hu : (heldL hd)[j]? = some u) => show wr.cell? ⟨tg, i * 3 + j, none⟩ = some u by
        rw [cell_of_blk htb]
        refine htc _ _ ?_
        rw [heldsL_at L i j hd hi (List.getElem?_eq_some_iff.1 hu).1]; exact hu)
      obtain ⟨va, vcap, hv⟩ := own_slice (hh.own i hd hi)
      obtain ⟨v, long, n, num⟩ := hd
      simp only at hv
      subst hv
      obtain ⟨hn1, hn2, hn3⟩ := HNN.out i _ hi
      simp only at hn1 hn2 hn3
      subst hn3
      have HNM := Lib.hid hn2
      have HI := Lib.hid hi
      have hlti : (i : Int) < L.length := by omega
      have hpb := blk_alloc wr (.cells #[.slice va n vcap, .slice none 0 0, .int .i64 num] 111)
      have HX1 := Lib.hid ((Upd.refl none' wr).alloc (.cells #[.slice va n vcap, .slice none 0 0, .int .i64 num] 111))
      have HPB0 := Lib.hid hpb
      clear hh hcj hu hi htb htc hpb hn2
      go_wp2_with (refine wpList_loadAgg rfl 111 _ rfl tg (i * 3) (by go_simp; all_goals exact rfl) [.slice va n vcap, .slice none 0 0, .int .i64 num] Tryz.underlying111 rfl held_size HROW.out ?_)
      generalize hhb : wr.heap.size = hb at *
      go_loopw [4] (fun iv wr => ∃ (k : Nat) (C : Nat → List Value) (D : List Value), iv = .int .i64 k ∧ k ≤ n ∧ HoldT B wr (.slice (some ⟨tg, 0, none⟩) L.length tcap) L C ∧ C i = repL k (markT num) ++ D ∧ (∀ (j : Nat) h, j < i → L[j]? = some h → C j = repL h.n (markT h.num)) ∧ Upd (listBs L) W wr ∧ wr.heap[hb]? = some (.cells #[.slice va n vcap, .slice none 0 0, .int .i64 num] 111 (0, 0))) (fun iv _ => n - (RowKit.intOf iv).toNat)
      case atStart => exact ⟨0, C, C i, rfl, Nat.zero_le _, HH.out.ext HX1.out, rfl, HCJ.out, HU.out.thenExt HX1.out, HPB0.out⟩
      case round =>
        obtain ⟨k, C, D, rfl, hk1, hh, hci, hcj, hu, hpb⟩ := hrel
        have HH := Lib.hid hh
        have HCI := Lib.hid hci
        have HCJ := Lib.hid hcj
        have HU := Lib.hid hu
        have HPB := Lib.hid hpb
        have c0 := cell_of_blk hpb 0
        have hlen := (hh.own i _ HI.out).1
        rw [hci, List.length_append, repL_len] at hlen
        simp only [List.length_cons, List.length_nil, Nat.zero_add, Nat.mul_one] at hlen
        by_cases hkn : k < n
        · obtain ⟨g, vcap2, vcl, hvv, _, hgb, _⟩ := own_at (hh.own i _ HI.out) (by show 0 < n; omega)
          simp only [Value.slice.injEq, true_and] at hvv
          obtain ⟨rfl, rfl⟩ := hvv
          have HG : Hid ((HeldD.mk (.slice (some ⟨g, 0, none⟩) n vcap) (.slice none 0 0) n num).v.ownBlock = some g) := Lib.hid rfl
          have HC0 := Lib.hid (fun (w1 : World) (hX : Ext wr w1) => show w1.cell? ⟨hb, 0, none⟩ = some (.slice (some ⟨g, 0, none⟩) n vcap) from cell_of_blk (Ext.blk hX HPB.out) 0)
          have HC2 := Lib.hid (fun (w1 : World) (hX : Ext wr w1) => show w1.cell? ⟨hb, 2, none⟩ = some (.int .i64 num) from cell_of_blk (Ext.blk hX HPB.out) 2)
          have HT := Lib.hid (HT0.out.upd hu HTB.out)
          have HKN := Lib.hid hkn
          have HFR := Lib.hid (fun (w1 : World) (hX : Ext wr w1) => own_free (ownsRow_upd (hh.own i _ HI.out) hX (fun _ _ h => h)) HG.out k (by show k < n * 1; omega))
          have HNEB := Lib.hid (show hb ≠ g from fun e => by
            rw [e, hgb] at hpb
            simp only [Option.some.injEq, Obj.cells.injEq] at hpb
            exact absurd hpb.2.1 (by decide))
          obtain ⟨d, D', rfl⟩ : ∃ d D', D = d :: D' := by
            cases D with
            | nil => simp at hlen; omega
            | cons d D' => exact ⟨d, D', rfl⟩
          obtain ⟨C2, hC2⟩ : ∃ C2 : Nat → List Value, C2 = (fun j => if j = i then (C i).set k (.string (str (wordL num))) else C j) := ⟨_, rfl⟩
          have HCE := Lib.hid hC2
          have HCI2 := Lib.hid (show C2 i = repL (k + 1) (markT num) ++ D' by
            rw [hC2]; show (if i = i then _ else _) = _; rw [if_pos rfl, hci]; exact rep_set k _ d D')
          have HCJ2 := Lib.hid (show ∀ (j : Nat) h, j < i → L[j]? = some h → C2 j = repL h.n (markT h.num) by
            intro j h hj hjh
            rw [hC2]; show (if j = i then _ else _) = _; rw [if_neg (show ¬ j = i by omega)]; exact hcj j h hj hjh)
          clear hC2
          have hki : (k : Int) < n := by omega
          clear hh hci hcj hu hpb hgb hlen
          go_wp2_with fail
          refine region_tail 7 (fun _ => ⟨0, 0, none⟩) [.inl (.pointer (some ⟨hb, 0, none⟩)), .inl (.slice (some ⟨g, 0, none⟩) n vcap), .inl (.int .i64 (k : Int)), .inl (.pointer (some ⟨hb, 2, none⟩)), .inl (.int .i64 num), .inl (.string (str (wordL num))), .inl (.pointer (some ⟨g, k, none⟩))] (by kernel_rfl) (by kernel_rfl) (by rfl) (by rfl) (by rfl) (by rfl) ?_ ?_
          rotate_left
          · intro v w' X hv
            have h33 := slot_val (hv 5 _ 33 rfl rfl) rfl
            have h34 := slot_val (hv 6 _ 34 rfl rfl) rfl
            have HH2 := Lib.hid (HH.out.ext X)
            have HU2 := Lib.hid (HU.out.thenExt X)
            have HF := Lib.hid (HFR.out w' X)
            have HPX := Lib.hid (Ext.blk X HPB.out)
            have HP2 := Lib.hid (show HoldT B (w'.setCell ⟨g, k, none⟩ (.string (str (wordL num)))) (.slice (some ⟨tg, 0, none⟩) L.length tcap) L C2 by rw [HCE.out]; exact HH2.out.put HI.out HG.out k _)
            have HUP := Lib.hid (HU2.out.setCell (p := ⟨g, k, none⟩) (.inr ⟨i, _, HI.out, HG.out⟩) (.string (str (wordL num))))
            have HBK2 := Lib.hid (blk_set_ne HPX.out (p := ⟨g, k, none⟩) HNEB.out (.string (str (wordL num))))
            clear X hv
            refine any_norm (by simp only [List.take, putAll]; rewrite [h33, h34]; go_simp; all_goals exact rfl) ?_
            clear h33 h34
            refine any1 7 (by kernel_rfl) ?_
            obtain ⟨c0, hc0⟩ := HF.out.2
            refine op_store1 rfl (by rfl) 9 _ _ rfl ⟨g, k, none⟩ rfl (.string (str (wordL num))) rfl rfl rfl size_str1 c0 hc0 HF.out.1 ?_
            clear hc0
            refine any_norm (by go_simp; all_goals exact rfl) ?_
            refine wpAny_done (by kernel_rfl) ?_ _
            go_wp2_with fail
            exact ⟨⟨k + 1, _, D', by simp, by omega, HP2.out, HCI2.out, HCJ2.out, HUP.out, HBK2.out⟩, by simp [RowKit.intOf]; omega⟩
          refine ⟨ty_fieldAddr _ _ (gd_none rfl) rfl rfl (kn_old 3 rfl rfl) (fun w1 => by kernel_rfl), ?_⟩
          refine ⟨ty_load1 ⟨hb, 0, none⟩ _ (gd_none rfl) rfl rfl (kn_new 0 rfl rfl rfl rfl) Tryz.underlying86 rfl (fun w1 hX => HC0.out w1 hX), ?_⟩
          refine ⟨ty_move (gd_none rfl) rfl rfl (kn_old 4 rfl rfl), ?_⟩
          refine ⟨ty_fieldAddr _ _ (gd_none rfl) rfl rfl (kn_old 3 rfl rfl) (fun w1 => by kernel_rfl), ?_⟩
          refine ⟨ty_load1 ⟨hb, 2, none⟩ _ (gd_none rfl) rfl rfl (kn_new 3 rfl rfl rfl rfl) Tryz.underlying3 rfl (fun w1 hX => HC2.out w1 hX), ?_⟩
          refine ⟨ty_call1 96 _ _ _ (gd_none rfl) rfl body_markText (kn_new 4 rfl rfl rfl rfl) (fun w1 hX => known_call rfl (markText_any num HNM.out (HT.out.ext hX))), ?_⟩
          refine ⟨ty_indexSlice1 g _ _ k _ (gd_none rfl) rfl rfl (kn_new 1 rfl rfl rfl rfl) (kn_new 2 rfl rfl rfl rfl) HKN.out Tryz.underlying86 size_str1, ?_⟩
          exact trivial
        · obtain rfl : k = n := by omega
          have hD : D = [] := List.length_eq_zero_iff.1 (by omega)
          subst hD
          have HCF := Lib.hid (show ∀ (j : Nat) h, j < i + 1 → L[j]? = some h → C j = repL h.n (markT h.num) by
            intro j h hj hjh
            by_cases e : j = i
            · subst e
              rw [HI.out] at hjh
              cases hjh
              rw [hci, List.append_nil]
            · exact hcj j h (by omega) hjh)
          clear hh hci hcj hu hpb hlen
          go_wp2_with fail
          exact ⟨⟨i + 1, C, by simp, by omega, HH.out, HCF.out, HU.out⟩, by simp [RowKit.intOf]; omega⟩
    · obtain rfl : i = L.length := by omega
      have HFIN := Lib.hid (show ∀ (j : Nat) h, L[j]? = some h → C j = repL h.n (markT h.num) from fun j h hj => hcj j h (List.getElem?_eq_some_iff.1 hj).1 hj)
      clear hh hcj hu
      go_wp2_with fail
      go_end0
      exact ⟨rfl, ⟨C, HH.out, HFIN.out⟩, HU.out⟩
end Go.Proofs.YtdkhnkhflbefbaaGreatDoor
