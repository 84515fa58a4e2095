/- A Book's texts are looked at. -/
import Derived.Test.YtdkhnkhflbefbaaGreatDoorBookG
namespace Go.Proofs.YtdkhnkhflbefbaaGreatDoor
open Go.RowKit Go.Lib

section
variable {P : Program} {l : List Oper} {w0 : World} {se : Nat → Addr} {F : List (Value ⊕ EV)} {a0 : Act} {i : Nat} {o : Oper}
theorem ty_lenS {x : Operand} {t e : TypeId} (a : Option Addr) (n cap : Nat) (hu : P.underlying t = some (.slice e)) (hg : Gd l se F a0 o) (ho : o.op = .call { callee := .builtin .len, args := #[x], argTypes := #[t] }) (hF : F[i]? = some (.inl (.int .i64 n))) (hx : Kn l se F a0 o x (.slice a n cap)) : OpSpec P l w0 (Slots se F) a0 i o :=
  ty_val hg hF (fun a' w _ hH hN => by
    simp [execOp, ho, resolve, invoke, builtin, hx a' w hH hN, Builtin.len_, Builtin.lenOf, run_underlying hu]
    rfl)
end
theorem run_lssInt {P : Program} {t : TypeId} {x y : Operand} (k : IntKind) (m n : Int) (b : Bool) (hb : decide (m < n) = b) (W : World) : (do eqGuard .lss t x y (.int k m) (.int k n); binOp .lss t (.int k m) (.int k n) : Sem Value).run P W = .ok (.bool b) W := by
  subst hb
  simp [eqGuard, go_sem]
theorem ReadV.at {W : World} {a : Option Addr} {n cap : Nat} {m : Value} (h : ReadV W (.slice a n cap) n [m]) (k : Nat) (hk : k < n) : ∃ g, a = some ⟨g, 0, none⟩ ∧ W.cell? ⟨g, k, none⟩ = some m := by
  obtain ⟨a', cap', hv, hr⟩ := h
  simp only [Value.slice.injEq] at hv
  obtain ⟨g, hg, hj⟩ := hr k hk
  refine ⟨g, hv.1.trans hg, ?_⟩
  have := hj 0 m rfl
  simpa using this

set_option maxRecDepth 8000 in
set_option maxHeartbeats 8000000 in
theorem lookT_any {B b : Nat} {W : World} {tv : Value} {L L' : List HeldD} (hb : W.cell? ⟨b, 3, none⟩ = some tv) (H : GrowT B W tv L L' L.length) (T : Tab10 W) (hn : L.length ≤ 4000000) (hnn : ∀ (i : Nat) h, L[i]? = some h → h.n ≤ 1000000000 ∧ h.num ≤ 1000000000) :
    Calls Tryz.prog 72 #[.pointer (some ⟨b, 0, none⟩)] W fun e W' => e = .returned (.bool true) ∧ Ext W W' := by
  obtain ⟨ta, tcap, rfl⟩ := own_slice H.row
  rw [H.len] at hb
  have HLEN := Lib.hid H.len
  have HB := Lib.hid hb
  have HH := Lib.hid H
  have HT0 := Lib.hid T
  have HNN := Lib.hid hnn
  clear H T hnn
  go_enter Tryz.func72, Tryz.ntmps72
  go_wp2_with fail
  go_loopw [3] (fun iv wr => ∃ (i : Nat), iv = .int .i64 i ∧ i ≤ L.length ∧ Ext W wr) (fun iv _ => L.length - (RowKit.intOf iv).toNat)
  case atStart => exact ⟨0, rfl, Nat.zero_le _, Upd.refl _ _⟩
  case round =>
    obtain ⟨i, rfl, hi1, hu⟩ := hrel
    have HU := Lib.hid hu
    have cb : wr.cell? ⟨b, 3, none⟩ = some (.slice ta L.length tcap) := Ext.cellv hu HB.out
    by_cases hlt : i < L.length
    · have hil' : i < L'.length := by rw [HLEN.out]; exact hlt
      have hi := List.getElem?_eq_getElem hil'
      generalize L'[i] = hd at hi
      have hh := HH.out.ext hu
      obtain ⟨tg, tcap2, tcl, htv, _, htb, htc⟩ := own_at hh.row (by omega)
      simp only [Value.slice.injEq, true_and] at htv
      obtain ⟨rfl, _, rfl⟩ := htv
      have HROW := Lib.hid (fun (j : Nat) (u : Value) (hu : (heldL hd)[j]? = some u) => show wr.cell? ⟨tg, i * 3 + j, none⟩ = some u by
        rw [cell_of_blk htb]
        refine htc _ _ ?_
        rw [heldsL_at L' i j hd hi (List.getElem?_eq_some_iff.1 hu).1]; exact hu)
      obtain ⟨hd1, hd2⟩ := hh.done i hd hlt hi
      obtain ⟨h0, hL0⟩ : ∃ h0, L[i]? = some h0 := ⟨_, List.getElem?_eq_getElem hlt⟩
      obtain ⟨h', e1, e2, e3, e4⟩ := hh.same i h0 hL0
      rw [hi] at e1
      cases e1
      obtain ⟨hn1, hn2⟩ := HNN.out i _ hL0
      rw [← e3] at hn1
      rw [← e4] at hn2
      obtain ⟨v, long, n, num⟩ := hd
      obtain ⟨va, vcap, hv, hvr⟩ := hd2
      simp only at hv hd1 hn1 hn2
      subst hv
      have HVR := Lib.hid (show ReadV wr (.slice va n vcap) n (markT num) from ⟨va, vcap, rfl, hvr⟩)
      obtain ⟨lg, lcap, lcl, hlv, _, hlb, hlc⟩ := own_at hd1 (by omega)
      subst hlv
      have HLR := Lib.hid (show ReadV wr (.slice (some ⟨lg, 0, none⟩) (n + 70) lcap) (n + 70) (markT num) from own_read (k := 0) hd1)
      have HNM := Lib.hid hn2
      have hlti : (i : Int) < L.length := by omega
      have hpb := blk_alloc wr (.cells #[.slice va n vcap, .slice (some ⟨lg, 0, none⟩) (n + 70) lcap, .int .i64 num] 111)
      have HX1 := Lib.hid ((Upd.refl none' wr).alloc (.cells #[.slice va n vcap, .slice (some ⟨lg, 0, none⟩) (n + 70) lcap, .int .i64 num] 111))
      have HPB0 := Lib.hid hpb
      have HU1 := Lib.hid (hu.trans HX1.out)
      clear hh hu hi htb htc hpb hn2 hd1 hvr hlb hlc hL0 e2 e3 e4 hil'
      go_wp2_with (refine wpList_loadAgg rfl 111 _ rfl tg (i * 3) (by go_simp; all_goals exact rfl) [.slice va n vcap, .slice (some ⟨lg, 0, none⟩) (n + 70) lcap, .int .i64 num] Tryz.underlying111 rfl held_size HROW.out ?_)
      have HVR1 := Lib.hid (HVR.out.ext HX1.out)
      have HLR1 := Lib.hid (HLR.out.ext HX1.out)
      clear HX1 HVR HLR HROW cb
      generalize hhb : wr.heap.size = hb at *
      generalize hW1 : wr.alloc (.cells #[.slice va n vcap, .slice (some ⟨lg, 0, none⟩) (n + 70) lcap, .int .i64 num] 111) = W1 at *
      go_loopw [5] (fun kv wr => ∃ (k : Nat), kv = .int .i64 k ∧ k ≤ n + 70 ∧ Ext W1 wr ∧ wr.heap[hb]? = some (.cells #[.slice va n vcap, .slice (some ⟨lg, 0, none⟩) (n + 70) lcap, .int .i64 num] 111 (0, 0))) (fun kv _ => n + 70 - (RowKit.intOf kv).toNat)
      case atStart => exact ⟨0, rfl, Nat.zero_le _, Upd.refl _ _, HPB0.out⟩
      case round =>
        obtain ⟨k, rfl, hk1, hu, hpb⟩ := hrel
        have HPB := Lib.hid hpb
        have HUW := Lib.hid (HU1.out.trans hu)
        have c1 := cell_of_blk hpb 1
        simp only [List.size_toArray, List.getElem?_toArray, List.getElem?_cons_zero, List.getElem?_cons_succ] at c1
        by_cases hkn : k < n + 70
        · have HKN := Lib.hid hkn
          have HC0 := Lib.hid (fun (w1 : World) (hX : Ext wr w1) => show w1.cell? ⟨hb, 0, none⟩ = some (.slice va n vcap) from cell_of_blk (Ext.blk hX HPB.out) 0)
          have HC1 := Lib.hid (fun (w1 : World) (hX : Ext wr w1) => show w1.cell? ⟨hb, 1, none⟩ = some (.slice (some ⟨lg, 0, none⟩) (n + 70) lcap) from cell_of_blk (Ext.blk hX HPB.out) 1)
          have HC2 := Lib.hid (fun (w1 : World) (hX : Ext wr w1) => show w1.cell? ⟨hb, 2, none⟩ = some (.int .i64 num) from cell_of_blk (Ext.blk hX HPB.out) 2)
          have HT := Lib.hid (HT0.out.ext HUW.out)
          have HLC := Lib.hid (fun (w1 : World) (hX : Ext wr w1) => show w1.cell? ⟨lg, k, none⟩ = some (.string (str (wordL num))) by
            obtain ⟨g, hg, hc⟩ := ((HLR1.out.ext hu).ext hX).at k HKN.out
            simp only [Option.some.injEq, Addr.mk.injEq, and_true] at hg
            rw [hg]; exact hc)
          have HU := Lib.hid hu
          have hki : (k : Int) < (n : Int) + 70 := by omega
          clear hpb
          by_cases hkv : k < n
          · obtain ⟨vg, hvg, hvc⟩ := (HVR1.out.ext hu).at k hkv
            subst hvg
            have HVC := Lib.hid (fun (w1 : World) (hX : Ext wr w1) => Ext.cellv hX hvc)
            have HKV := Lib.hid hkv
            have HLT2 := Lib.hid (show decide ((k : Int) < (n : Int)) = true by simp; omega)
            clear hu hvc hkv
            go_wp2_with fail
            refine region_slots (fun _ => ⟨0, 0, none⟩) [.inl (.pointer (some ⟨hb, 1, none⟩)), .inl (.slice (some ⟨lg, 0, none⟩) (n + 70) lcap), .inl (.int .i64 (k : Int)), .inl (.pointer (some ⟨lg, k, none⟩)), .inl (.string (str (wordL num))), .inl (.pointer (some ⟨hb, 2, none⟩)), .inl (.int .i64 num), .inl (.bool true), .inl (.bool false), .inl (.bool false), .inl (.int .i64 (k : Int)), .inl (.pointer (some ⟨hb, 0, none⟩)), .inl (.slice (some ⟨vg, 0, none⟩) n vcap), .inl (.int .i64 n), .inl (.bool true), .inl (.bool true), .inl (.pointer (some ⟨hb, 0, none⟩)), .inl (.slice (some ⟨vg, 0, none⟩) n vcap), .inl (.int .i64 (k : Int)), .inl (.pointer (some ⟨vg, k, none⟩)), .inl (.string (str (wordL num))), .inl (.pointer (some ⟨hb, 2, none⟩)), .inl (.int .i64 num), .inl (.bool true), .inl (.bool false), .inl (.bool false), .inl (.bool false)] (by kernel_rfl) (by rfl) (by rfl) ?_ ?_
            rotate_left
            · intro v' w' X hv
              have h63 := slot_val (hv 26 _ 63 rfl rfl) rfl
              have HX2 := Lib.hid X
              have HPX := Lib.hid (Ext.blk X HPB.out)
              clear X hv
              refine q_norm (by simp only [putAll]; rewrite [h63]; go_simp; all_goals exact rfl) ?_
              clear h63
              go_wp2_with fail
              exact ⟨⟨k + 1, by simp, by omega, HU.out.trans HX2.out, HPX.out⟩, by simp [RowKit.intOf]; omega⟩
            refine ⟨ty_fieldAddr _ _ (gd_none rfl) rfl rfl (kn_old 4 rfl rfl) (fun w1 => by kernel_rfl), ?_⟩
            refine ⟨ty_load1 ⟨hb, 1, none⟩ _ (gd_none rfl) rfl rfl (kn_new 0 rfl rfl rfl rfl) Tryz.underlying86 rfl (fun w1 hX => HC1.out w1 hX), ?_⟩
            refine ⟨ty_move (gd_none rfl) rfl rfl (kn_old 5 rfl rfl), ?_⟩
            refine ⟨ty_indexSlice1 lg _ _ k _ (gd_none rfl) rfl rfl (kn_new 1 rfl rfl rfl rfl) (kn_new 2 rfl rfl rfl rfl) HKN.out Tryz.underlying86 size_str1, ?_⟩
            refine ⟨ty_load1 ⟨lg, k, none⟩ _ (gd_none rfl) rfl rfl (kn_new 3 rfl rfl rfl rfl) Tryz.underlying9 rfl (fun w1 hX => HLC.out w1 hX), ?_⟩
            refine ⟨ty_fieldAddr _ _ (gd_none rfl) rfl rfl (kn_old 4 rfl rfl) (fun w1 => by kernel_rfl), ?_⟩
            refine ⟨ty_load1 ⟨hb, 2, none⟩ _ (gd_none rfl) rfl rfl (kn_new 5 rfl rfl rfl rfl) Tryz.underlying3 rfl (fun w1 hX => HC2.out w1 hX), ?_⟩
            refine ⟨ty_call2 111 _ _ _ _ _ (gd_none rfl) rfl body_isText (kn_new 4 rfl rfl rfl rfl) (kn_new 6 rfl rfl rfl rfl) (fun w1 hX => known_call rfl (isText_any num HNM.out (HT.out.ext hX))), ?_⟩
            refine ⟨ty_not true (gd_none rfl) rfl rfl (kn_new 7 rfl rfl rfl rfl), ?_⟩
            refine ⟨ty_move (gd_none rfl) rfl rfl (kn_new 8 rfl rfl rfl rfl), ?_⟩
            refine ⟨ty_move (gd_some 9 rfl rfl rfl rfl rfl) rfl rfl (kn_old 5 rfl rfl), ?_⟩
            refine ⟨ty_fieldAddr _ _ (gd_some 9 rfl rfl rfl rfl rfl) rfl rfl (kn_old 4 rfl rfl) (fun w1 => by kernel_rfl), ?_⟩
            refine ⟨ty_load1 ⟨hb, 0, none⟩ _ (gd_some 9 rfl rfl rfl rfl rfl) rfl rfl (kn_new 11 rfl rfl rfl rfl) Tryz.underlying86 rfl (fun w1 hX => HC0.out w1 hX), ?_⟩
            refine ⟨ty_lenS (some ⟨vg, 0, none⟩) n vcap Tryz.underlying86 (gd_some 9 rfl rfl rfl rfl rfl) rfl rfl (kn_new 12 rfl rfl rfl rfl), ?_⟩
            refine ⟨ty_bin _ _ _ (gd_some 9 rfl rfl rfl rfl rfl) rfl rfl (kn_new 10 rfl rfl rfl rfl) (kn_new 13 rfl rfl rfl rfl) (run_lssInt .i64 _ _ _ HLT2.out), ?_⟩
            refine ⟨ty_move (gd_some 9 rfl rfl rfl rfl rfl) rfl rfl (kn_new 14 rfl rfl rfl rfl), ?_⟩
            refine ⟨ty_fieldAddr _ _ (gd_some 15 rfl rfl rfl rfl rfl) rfl rfl (kn_old 4 rfl rfl) (fun w1 => by kernel_rfl), ?_⟩
            refine ⟨ty_load1 ⟨hb, 0, none⟩ _ (gd_some 15 rfl rfl rfl rfl rfl) rfl rfl (kn_new 16 rfl rfl rfl rfl) Tryz.underlying86 rfl (fun w1 hX => HC0.out w1 hX), ?_⟩
            refine ⟨ty_move (gd_some 15 rfl rfl rfl rfl rfl) rfl rfl (kn_old 5 rfl rfl), ?_⟩
            refine ⟨ty_indexSlice1 vg _ _ k _ (gd_some 15 rfl rfl rfl rfl rfl) rfl rfl (kn_new 17 rfl rfl rfl rfl) (kn_new 18 rfl rfl rfl rfl) HKV.out Tryz.underlying86 size_str1, ?_⟩
            refine ⟨ty_load1 ⟨vg, k, none⟩ _ (gd_some 15 rfl rfl rfl rfl rfl) rfl rfl (kn_new 19 rfl rfl rfl rfl) Tryz.underlying9 rfl (fun w1 hX => HVC.out w1 hX), ?_⟩
            refine ⟨ty_fieldAddr _ _ (gd_some 15 rfl rfl rfl rfl rfl) rfl rfl (kn_old 4 rfl rfl) (fun w1 => by kernel_rfl), ?_⟩
            refine ⟨ty_load1 ⟨hb, 2, none⟩ _ (gd_some 15 rfl rfl rfl rfl rfl) rfl rfl (kn_new 21 rfl rfl rfl rfl) Tryz.underlying3 rfl (fun w1 hX => HC2.out w1 hX), ?_⟩
            refine ⟨ty_call2 111 _ _ _ _ _ (gd_some 15 rfl rfl rfl rfl rfl) rfl body_isText (kn_new 20 rfl rfl rfl rfl) (kn_new 22 rfl rfl rfl rfl) (fun w1 hX => known_call rfl (isText_any num HNM.out (HT.out.ext hX))), ?_⟩
            refine ⟨ty_not true (gd_some 15 rfl rfl rfl rfl rfl) rfl rfl (kn_new 23 rfl rfl rfl rfl), ?_⟩
            refine ⟨ty_pickT (gd_some 9 rfl rfl rfl rfl rfl) rfl rfl (kn_new 15 rfl rfl rfl rfl) (kn_new 24 rfl rfl rfl rfl), ?_⟩
            refine ⟨ty_pickF (gd_none rfl) rfl rfl (kn_new 9 rfl rfl rfl rfl) (kn_new 25 rfl rfl rfl rfl), ?_⟩
            exact trivial
          · have HLT2 := Lib.hid (show decide ((k : Int) < (n : Int)) = false by simp; omega)
            clear hu hkv
            go_wp2_with fail
            refine region_slots (fun _ => ⟨0, 0, none⟩) [.inl (.pointer (some ⟨hb, 1, none⟩)), .inl (.slice (some ⟨lg, 0, none⟩) (n + 70) lcap), .inl (.int .i64 (k : Int)), .inl (.pointer (some ⟨lg, k, none⟩)), .inl (.string (str (wordL num))), .inl (.pointer (some ⟨hb, 2, none⟩)), .inl (.int .i64 num), .inl (.bool true), .inl (.bool false), .inl (.bool false), .inl (.int .i64 (k : Int)), .inl (.pointer (some ⟨hb, 0, none⟩)), .inl (.slice va n vcap), .inl (.int .i64 n), .inl (.bool false), .inl (.bool false), .inl undef, .inl undef, .inl undef, .inl undef, .inl undef, .inl undef, .inl undef, .inl undef, .inl undef, .inl (.bool false), .inl (.bool false)] (by kernel_rfl) (by rfl) (by rfl) ?_ ?_
            rotate_left
            · intro v' w' X hv
              have h63 := slot_val (hv 26 _ 63 rfl rfl) rfl
              have HX2 := Lib.hid X
              have HPX := Lib.hid (Ext.blk X HPB.out)
              clear X hv
              refine q_norm (by simp only [putAll]; rewrite [h63]; go_simp; all_goals exact rfl) ?_
              clear h63
              go_wp2_with fail
              exact ⟨⟨k + 1, by simp, by omega, HU.out.trans HX2.out, HPX.out⟩, by simp [RowKit.intOf]; omega⟩
            refine ⟨ty_fieldAddr _ _ (gd_none rfl) rfl rfl (kn_old 4 rfl rfl) (fun w1 => by kernel_rfl), ?_⟩
            refine ⟨ty_load1 ⟨hb, 1, none⟩ _ (gd_none rfl) rfl rfl (kn_new 0 rfl rfl rfl rfl) Tryz.underlying86 rfl (fun w1 hX => HC1.out w1 hX), ?_⟩
            refine ⟨ty_move (gd_none rfl) rfl rfl (kn_old 5 rfl rfl), ?_⟩
            refine ⟨ty_indexSlice1 lg _ _ k _ (gd_none rfl) rfl rfl (kn_new 1 rfl rfl rfl rfl) (kn_new 2 rfl rfl rfl rfl) HKN.out Tryz.underlying86 size_str1, ?_⟩
            refine ⟨ty_load1 ⟨lg, k, none⟩ _ (gd_none rfl) rfl rfl (kn_new 3 rfl rfl rfl rfl) Tryz.underlying9 rfl (fun w1 hX => HLC.out w1 hX), ?_⟩
            refine ⟨ty_fieldAddr _ _ (gd_none rfl) rfl rfl (kn_old 4 rfl rfl) (fun w1 => by kernel_rfl), ?_⟩
            refine ⟨ty_load1 ⟨hb, 2, none⟩ _ (gd_none rfl) rfl rfl (kn_new 5 rfl rfl rfl rfl) Tryz.underlying3 rfl (fun w1 hX => HC2.out w1 hX), ?_⟩
            refine ⟨ty_call2 111 _ _ _ _ _ (gd_none rfl) rfl body_isText (kn_new 4 rfl rfl rfl rfl) (kn_new 6 rfl rfl rfl rfl) (fun w1 hX => known_call rfl (isText_any num HNM.out (HT.out.ext hX))), ?_⟩
            refine ⟨ty_not true (gd_none rfl) rfl rfl (kn_new 7 rfl rfl rfl rfl), ?_⟩
            refine ⟨ty_move (gd_none rfl) rfl rfl (kn_new 8 rfl rfl rfl rfl), ?_⟩
            refine ⟨ty_move (gd_some 9 rfl rfl rfl rfl rfl) rfl rfl (kn_old 5 rfl rfl), ?_⟩
            refine ⟨ty_fieldAddr _ _ (gd_some 9 rfl rfl rfl rfl rfl) rfl rfl (kn_old 4 rfl rfl) (fun w1 => by kernel_rfl), ?_⟩
            refine ⟨ty_load1 ⟨hb, 0, none⟩ _ (gd_some 9 rfl rfl rfl rfl rfl) rfl rfl (kn_new 11 rfl rfl rfl rfl) Tryz.underlying86 rfl (fun w1 hX => HC0.out w1 hX), ?_⟩
            refine ⟨ty_lenS va n vcap Tryz.underlying86 (gd_some 9 rfl rfl rfl rfl rfl) rfl rfl (kn_new 12 rfl rfl rfl rfl), ?_⟩
            refine ⟨ty_bin _ _ _ (gd_some 9 rfl rfl rfl rfl rfl) rfl rfl (kn_new 10 rfl rfl rfl rfl) (kn_new 13 rfl rfl rfl rfl) (run_lssInt .i64 _ _ _ HLT2.out), ?_⟩
            refine ⟨ty_move (gd_some 9 rfl rfl rfl rfl rfl) rfl rfl (kn_new 14 rfl rfl rfl rfl), ?_⟩
            refine ⟨ty_skip 15 rfl rfl rfl rfl rfl rfl rfl, ?_⟩
            refine ⟨ty_skip 15 rfl rfl rfl rfl rfl rfl rfl, ?_⟩
            refine ⟨ty_skip 15 rfl rfl rfl rfl rfl rfl rfl, ?_⟩
            refine ⟨ty_skip 15 rfl rfl rfl rfl rfl rfl rfl, ?_⟩
            refine ⟨ty_skip 15 rfl rfl rfl rfl rfl rfl rfl, ?_⟩
            refine ⟨ty_skip 15 rfl rfl rfl rfl rfl rfl rfl, ?_⟩
            refine ⟨ty_skip 15 rfl rfl rfl rfl rfl rfl rfl, ?_⟩
            refine ⟨ty_skip 15 rfl rfl rfl rfl rfl rfl rfl, ?_⟩
            refine ⟨ty_skip 15 rfl rfl rfl rfl rfl rfl rfl, ?_⟩
            refine ⟨ty_pickF (gd_some 9 rfl rfl rfl rfl rfl) rfl rfl (kn_new 15 rfl rfl rfl rfl) kn_const, ?_⟩
            refine ⟨ty_pickF (gd_none rfl) rfl rfl (kn_new 9 rfl rfl rfl rfl) (kn_new 25 rfl rfl rfl rfl), ?_⟩
            exact trivial
        · obtain rfl : k = n + 70 := by omega
          have hki : ¬ ((n + 70 : Nat) : Int) < (n : Int) + 70 := by omega
          clear hu hpb
          go_wp2_with fail
          exact ⟨⟨i + 1, by simp, by omega, HUW.out⟩, by simp [RowKit.intOf]; omega⟩
    · obtain rfl : i = L.length := by omega
      clear hu
      go_wp2_with fail
      go_ret
      exact ⟨rfl, HU.out⟩
end Go.Proofs.YtdkhnkhflbefbaaGreatDoor
