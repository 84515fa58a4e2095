/- The statements' SameTexts, SameHashes, SameQuery, SameAnswer, of the same. -/
import Derived.Test.YtljnhelnmnomoaaGreatDoorDecQ
import Derived.Test.YtljnhelnmnomoaaGreatDoorEqual
namespace Go.Proofs.YtljnhelnmnomoaaGreatDoor
open Go.RowKit Go.Lib

theorem inv_neqAgg {P : Program} {ops : Array Oper} {I : World → Prop} {Q : Act → Prop} {rest : List Oper} {o : Oper} {a : Act} {x y : Operand} (ty tr : TypeId) (cs ds : Array Value) (hw : Region.wanted o (yielded ops a.tmps) = true) (ho : o.op = .binOp .neq ty x y tr)
    (hx : a.eval x = .agg cs) (hy : a.eval y = .agg ds) (hm : P.eqGuardType P.depth ty = false) (hs : ∀ w, (Op.equalIn 10000 ty (.agg cs) (.agg ds)).run P w = .ok true w) (h : wpInv P ops I Q rest (a.put o.dst (.bool false))) : wpInv P ops I Q (o :: rest) a := by
  refine inv_pure hw (fun w => ?_) h
  unfold execOp
  simp only [ho, hx, hy, Sem.run_bind, run_eqGuard_agg w _ _ _ _ _ _ hm, run_neq_struct, hs, Result.andThen_ok, Sem.run_pure]
  rfl
theorem hash_size1 : (Tryz.prog.info? 120).map (·.size) = some 32 := hash_size'
theorem string_size1 : (Tryz.prog.info? 9).map (·.size) = some 1 := by kernel_rfl
set_option maxRecDepth 8000 in
set_option maxHeartbeats 4000000 in
theorem sameHashes_any {w : World} {a b : Option Addr} {l : List (List UInt8)} (h1 : HashesAt w a l) (h2 : HashesAt w b l) (ca cb : Nat) (hl : l.length ≤ 9223372036854775807) : Calls Tryz.prog 108 #[.slice a l.length ca, .slice b l.length cb] w fun e w' => e = .returned (.bool true) ∧ Ext w w' := by
  have H1 := Lib.hid h1
  have H2 := Lib.hid h2
  clear h1 h2
  go_enter Tryz.func108, Tryz.ntmps108
  go_wp2_with fail
  go_loopw [5] (fun iv wr => ∃ j : Nat, iv = .int .i64 j ∧ j ≤ l.length ∧ Ext w wr) (fun iv _ => l.length - (RowKit.intOf iv).toNat)
  case atStart => exact ⟨0, rfl, Nat.zero_le _, Upd.refl _ _⟩
  case round =>
    obtain ⟨j, rfl, hj, u⟩ := hrel
    have HU := Lib.hid u
    clear u
    by_cases hlt : j < l.length
    · have hg := List.getElem?_eq_getElem hlt
      obtain ⟨hh, b1, o1, rfl, c1⟩ := (H1.out.later HU.out) j _ hg
      obtain ⟨_, b2, o2, rfl, c2⟩ := (H2.out.later HU.out) j _ hg
      have hlti : (j : Int) < l.length := by omega
      generalize l[j] = t at *
      have HSZ := Lib.hid (hash_size32 t hh)
      have HC1 := Lib.hid (fun (w7 : World) (h7 : Ext wr w7) (i : Nat) (u : Value) (hu : (t.map u8v)[i]? = some u) => show w7.cell? ⟨b1, o1 + j * 32 + i, none⟩ = some u from Ext.cellv h7 (by rw [Nat.add_assoc]; exact c1 i u hu))
      have HC2 := Lib.hid (fun (w7 : World) (h7 : Ext wr w7) (i : Nat) (u : Value) (hu : (t.map u8v)[i]? = some u) => show w7.cell? ⟨b2, o2 + j * 32 + i, none⟩ = some u from Ext.cellv h7 (by rw [Nat.add_assoc]; exact c2 i u hu))
      have HHS := Lib.hid (hash_same t hh)
      clear c1 c2 hg
      go_wp2_with fail
      refine region_inv (Ext wr) (by kernel_rfl) (by kernel_rfl) ((Upd.refl none' wr).drew) ?_
      refine inv_move rfl rfl (.slice (some ⟨b1, o1, none⟩) l.length ca) rfl ?_
      refine inv_norm (by go_simp; all_goals exact rfl) ?_
      refine inv_move rfl rfl (.int .i64 j) rfl ?_
      refine inv_norm (by go_simp; all_goals exact rfl) ?_
      refine inv_indexSlice rfl rfl b1 o1 l.length ca j 32 120 rfl rfl hlt Tryz.underlying68 hash_size1 ?_
      refine inv_norm (by go_simp; all_goals exact rfl) ?_
      refine inv_loadAgg rfl 120 _ rfl b1 (o1 + j * 32) rfl (t.map u8v) Tryz.underlying120 rfl HSZ.out HC1.out ?_
      refine inv_norm (by go_simp; all_goals exact rfl) ?_
      refine inv_move rfl rfl (.slice (some ⟨b2, o2, none⟩) l.length cb) rfl ?_
      refine inv_norm (by go_simp; all_goals exact rfl) ?_
      refine inv_move rfl rfl (.int .i64 j) rfl ?_
      refine inv_norm (by go_simp; all_goals exact rfl) ?_
      refine inv_indexSlice rfl rfl b2 o2 l.length cb j 32 120 rfl rfl hlt Tryz.underlying68 hash_size1 ?_
      refine inv_norm (by go_simp; all_goals exact rfl) ?_
      refine inv_loadAgg rfl 120 _ rfl b2 (o2 + j * 32) rfl (t.map u8v) Tryz.underlying120 rfl HSZ.out HC2.out ?_
      refine inv_norm (by go_simp; all_goals exact rfl) ?_
      refine inv_neqAgg 120 _ (t.map u8v).toArray (t.map u8v).toArray rfl rfl rfl rfl guard_hash HHS.out ?_
      refine inv_norm (by go_simp; all_goals exact rfl) ?_
      intro w7 h7
      have HU7 := Lib.hid (HU.out.trans h7)
      clear h7 HC1 HC2
      go_wp2_with fail
      exact ⟨⟨j + 1, by simp, by omega, HU7.out⟩, by simp [RowKit.intOf]; omega⟩
    · obtain rfl : j = l.length := by omega
      go_wp2_with fail
      go_ret
      exact ⟨rfl, HU.out⟩
set_option maxRecDepth 8000 in
set_option maxHeartbeats 4000000 in
theorem sameTexts_any {w : World} {a b : Option Addr} {l : List ByteArray} (h1 : TextsAt w a l) (h2 : TextsAt w b l) (ca cb : Nat) (hl : l.length ≤ 9223372036854775807) : Calls Tryz.prog 55 #[.slice a l.length ca, .slice b l.length cb] w fun e w' => e = .returned (.bool true) ∧ Ext w w' := by
  have H1 := Lib.hid h1
  have H2 := Lib.hid h2
  clear h1 h2
  go_enter Tryz.func55, Tryz.ntmps55
  go_wp2_with fail
  go_loopw [5] (fun iv wr => ∃ j : Nat, iv = .int .i64 j ∧ j ≤ l.length ∧ Ext w wr) (fun iv _ => l.length - (RowKit.intOf iv).toNat)
  case atStart => exact ⟨0, rfl, Nat.zero_le _, Upd.refl _ _⟩
  case round =>
    obtain ⟨j, rfl, hj, u⟩ := hrel
    have HU := Lib.hid u
    clear u
    by_cases hlt : j < l.length
    · have hg := List.getElem?_eq_getElem hlt
      obtain ⟨hh, b1, o1, rfl, c1⟩ := (H1.out.later HU.out) j _ hg
      obtain ⟨_, b2, o2, rfl, c2⟩ := (H2.out.later HU.out) j _ hg
      have hlti : (j : Int) < l.length := by omega
      generalize l[j] = t at *
      have HC1 := Lib.hid (fun (w7 : World) (h7 : Ext wr w7) => show w7.cell? ⟨b1, o1 + j * 1, none⟩ = some (.string t) from Ext.cellv h7 (by rw [Nat.mul_one]; exact c1))
      have HC2 := Lib.hid (fun (w7 : World) (h7 : Ext wr w7) => show w7.cell? ⟨b2, o2 + j * 1, none⟩ = some (.string t) from Ext.cellv h7 (by rw [Nat.mul_one]; exact c2))
      clear c1 c2 hg
      go_wp2_with fail
      refine region_inv (Ext wr) (by kernel_rfl) (by kernel_rfl) ((Upd.refl none' wr).drew) ?_
      refine inv_move rfl rfl (.slice (some ⟨b1, o1, none⟩) l.length ca) rfl ?_
      refine inv_norm (by go_simp; all_goals exact rfl) ?_
      refine inv_move rfl rfl (.int .i64 j) rfl ?_
      refine inv_norm (by go_simp; all_goals exact rfl) ?_
      refine inv_indexSlice rfl rfl b1 o1 l.length ca j 1 9 rfl rfl hlt Tryz.underlying25 string_size1 ?_
      refine inv_load1 rfl rfl ⟨b1, o1 + j * 1, none⟩ (.string t) rfl Tryz.underlying9 rfl HC1.out ?_
      refine inv_norm (by go_simp; all_goals exact rfl) ?_
      refine inv_move rfl rfl (.slice (some ⟨b2, o2, none⟩) l.length cb) rfl ?_
      refine inv_norm (by go_simp; all_goals exact rfl) ?_
      refine inv_move rfl rfl (.int .i64 j) rfl ?_
      refine inv_norm (by go_simp; all_goals exact rfl) ?_
      refine inv_indexSlice rfl rfl b2 o2 l.length cb j 1 9 rfl rfl hlt Tryz.underlying25 string_size1 ?_
      refine inv_load1 rfl rfl ⟨b2, o2 + j * 1, none⟩ (.string t) rfl Tryz.underlying9 rfl HC2.out ?_
      refine inv_norm (by go_simp; all_goals exact rfl) ?_
      refine inv_neqStr rfl rfl t rfl rfl ?_
      refine inv_norm (by go_simp; all_goals exact rfl) ?_
      intro w7 h7
      have HU7 := Lib.hid (HU.out.trans h7)
      clear h7 HC1 HC2
      go_wp2_with fail
      exact ⟨⟨j + 1, by simp, by omega, HU7.out⟩, by simp [RowKit.intOf]; omega⟩
    · obtain rfl : j = l.length := by omega
      go_wp2_with fail
      go_ret
      exact ⟨rfl, HU.out⟩
theorem sameA_any {w : World} {a b : Option Addr} (x : AnsD) (hx : x.Ok) (h1 : HashesAt w a x.hs) (h2 : HashesAt w b x.hs) (ca cb : Nat) : Calls Tryz.prog 21 #[.agg (ansCells x (.slice a x.hs.length ca)), .agg (ansCells x (.slice b x.hs.length cb))] w fun e w' => e = .returned (.bool true) ∧ Ext w w' := by
  have X := ((Upd.refl none' w).alloc (.cells (ansCells x (.slice a x.hs.length ca)) 70)).alloc (.cells (ansCells x (.slice b x.hs.length cb)) 70)
  have C := sameHashes_any (h1.later X) (h2.later X) ca cb hx.many
  simp only [ansCells] at X C ⊢
  have HX := Lib.hid X
  clear X h1 h2 hx
  go_enter Tryz.func21, Tryz.ntmps21
  go_wp2_with fail
  refine C.mono ?_
  rintro e w2 ⟨rfl, u⟩
  have HU := Lib.hid (HX.out.trans u)
  clear u C
  go_wp2_with fail
  go_ret
  exact ⟨rfl, HU.out⟩
theorem sameQ_any {w : World} {a b : Option Addr} (x : QryD) (hx : x.leaves.length ≤ 9223372036854775807) (h1 : TextsAt w a x.leaves) (h2 : TextsAt w b x.leaves) (ca cb : Nat) : Calls Tryz.prog 16 #[.agg (qCells x (.slice a x.leaves.length ca)).toArray, .agg (qCells x (.slice b x.leaves.length cb)).toArray] w fun e w' => e = .returned (.bool true) ∧ Ext w w' := by
  have X := ((Upd.refl none' w).alloc (.cells (qCells x (.slice a x.leaves.length ca)).toArray 27)).alloc (.cells (qCells x (.slice b x.leaves.length cb)).toArray 27)
  have C := sameTexts_any (h1.later X) (h2.later X) ca cb hx
  simp only [qCells] at X C ⊢
  have HX := Lib.hid X
  clear X h1 h2 hx
  go_enter Tryz.func16, Tryz.ntmps16
  go_wp2_with fail
  refine C.mono ?_
  rintro e w2 ⟨rfl, u⟩
  have HU := Lib.hid (HX.out.trans u)
  clear u C
  go_wp2_with fail
  go_ret
  exact ⟨rfl, HU.out⟩
end Go.Proofs.YtljnhelnmnomoaaGreatDoor
