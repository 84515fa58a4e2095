/- writer.Create, Resume of a store that is not there, by contracts; the statements' fresh. The writer's statements' alive by contract. The statements' stands of chapter 25 by contract. PRINTED by wip/tools/gen_std.py. tile.All by contract. The statements' lies of chapter 25 by contract. PRINTED by wip/tools/gen_lies.py. -/
import Derived.Test.YtnkcfkjeeennmaaGreatDoorHab
import Derived.Test.YtnkcfkjeeennmaaGreatDoorTxt
import Derived.Test.YtnkcfkjeeennmaaGreatDoorNTree
import Derived.Test.YtnkcfkjeeennmaaGreatDoorWrA
import Derived.Test.YtnkcfkjeeennmaaGreatDoorHEq
import Derived.Test.YtnkcfkjeeennmaaGreatDoorTyG
import Derived.Test.YtnkcfkjeeennmaaGreatDoorStdx
import Derived.Test.YtnkcfkjeeennmaaGreatDoorShaU
import Derived.Test.YtnkcfkjeeennmaaGreatDoorApp
import Derived.Test.YtnkcfkjeeennmaaGreatDoorDec
namespace Go.Proofs.YtnkcfkjeeennmaaGreatDoor
open Go.RowKit Go.Lib Go.Sort


set_option maxRecDepth 20000 in
set_option maxHeartbeats 4000000 in
theorem fresh25_any (w : World) (c : Int) : Calls Tryz.prog 27 #[.int .i64 c] w fun e w' => ∃ b mb tv, e = .returned (.pointer (some ⟨b, 0, none⟩)) ∧ StAt w' b mb tv ⟨[], [], c, 0, 0, false⟩ ∧ w.heap.size ≤ b ∧ w.heap.size ≤ mb ∧ Ext w w' := by
  have C := new_ok w none [] 0 c (fun i s hs => by simp at hs) (by simp) (by decide)
  go_enter Tryz.func27, Tryz.ntmps27
  go_wp2_with fail
  refine C.mono ?_
  rintro e w1 ⟨b, mb, tv, rfl, h, hb, hm, hx⟩
  have HH := Lib.hid (⟨h, hb, hm, hx⟩ : StAt w1 b mb tv ⟨[], [], c, 0, 0, false⟩ ∧ w.heap.size ≤ b ∧ w.heap.size ≤ mb ∧ Ext w w1)
  clear h hb hm hx C
  go_wp2_with fail
  go_ret
  exact ⟨_, _, _, rfl, HH.out⟩

theorem ck_field : ∃ f : Field, (match Tryz.prog.underlying 32 with | some (.struct fs) => fs[2]? | _ => none) = some f ∧ f.type = 30 ∧ f.offset = 2 := by
  have h : ((match Tryz.prog.underlying 32 with | some (.struct fs) => fs[2]? | _ => none).map fun (f : Field) => (f.type, f.offset)) = some (30, 2) := by kernel_rfl
  cases hq : (match Tryz.prog.underlying 32 with | some (.struct fs) => fs[2]? | _ => none) with
  | none => rw [hq] at h; cases h
  | some f =>
    rw [hq] at h
    simp only [Option.map_some, Option.some.injEq, Prod.mk.injEq] at h
    exact ⟨f, rfl, h.1, h.2⟩
theorem run_partH (w : World) (cs : Array Value) (off : Nat) : (part 30 cs off).run Tryz.prog w = .ok (.agg (cs.extract off (off + 32))) w := by
  obtain ⟨i0, hi0, hz0, hz1, hz2⟩ := info_parts info_hash
  simp [part, isAgg, run_underlying Tryz.underlying30, sizeOf, typeInfo, hi0, hz1]
theorem field_ck (w : World) (o : List UInt8) (n : Nat) (root : HB) (hr : root.length = 32) : (Instr.field 32 (ckV o n root) 2).run Tryz.prog w = .ok (hashV root) w := by
  have hx : (ckC o n root).toArray.extract 2 34 = (root.map u8v).toArray := by
    rw [List.extract_toArray]
    congr 1
    show ((Value.string (str o) :: .int .u64 n :: (root.map u8v ++ [.slice none 0 0])).drop 2).take 32 = _
    simp only [List.drop_succ_cons, List.drop_zero]
    rw [List.take_append_of_le_length (by simp [hr]), List.take_of_length_le (by simp [hr])]
  obtain ⟨f, hf, h1, h2⟩ := ck_field
  cases hu : Tryz.prog.underlying 32 with
  | none => rw [hu] at hf; cases hf
  | some d =>
    rw [hu] at hf
    cases d with
    | struct fs =>
      have hf : fs[2]? = some f := hf
      simp only [Instr.field, Sem.run_bind, run_underlying hu, Result.andThen_ok, hf, asAgg, Sem.run_pure, h1, h2, run_partH, hx]
    | _ => cases hf
theorem run_fieldCk {op : Oper} {a : Act} (w : World) {x : Operand} (ho : op.op = .field 32 x 2) (o : List UInt8) (n : Nat) (root : HB) (hr : root.length = 32) (hx : a.eval x = ckV o n root) : (execOp a.eval op).run Tryz.prog w = .ok (.value (hashV root)) w := by
  simp only [execOp, ho, hx, Sem.run_bind, field_ck w o n root hr, Result.andThen_ok]
  rfl
theorem run_neqH0 {op : Oper} {a : Act} (w : World) {x y : Operand} {tr : TypeId} (ho : op.op = .binOp .neq 30 x y tr) (p : List UInt8) (hx : a.eval x = hashV p) (hy : a.eval y = hashV p) (hp : p.length = 32) : (execOp a.eval op).run Tryz.prog w = .ok (.value (.bool false)) w := by
  have h := run_neqH w ho p p hx hy hp hp
  rw [decide_eq_true rfl] at h
  exact h
theorem run_neqH1 {op : Oper} {a : Act} (w : World) {x y : Operand} {tr : TypeId} (ho : op.op = .binOp .neq 30 x y tr) (p q : List UInt8) (hx : a.eval x = hashV p) (hy : a.eval y = hashV q) (hp : p.length = 32) (hq : q.length = 32) (hn : p ≠ q) : (execOp a.eval op).run Tryz.prog w = .ok (.value (.bool true)) w := by
  have h := run_neqH w ho p q hx hy hp hq
  rw [decide_eq_false hn] at h
  exact h
theorem run_eqlH0 {op : Oper} {a : Act} (w : World) {x y : Operand} {tr : TypeId} (ho : op.op = .binOp .eql 30 x y tr) (p : List UInt8) (hx : a.eval x = hashV p) (hy : a.eval y = hashV p) (hp : p.length = 32) : (execOp a.eval op).run Tryz.prog w = .ok (.value (.bool true)) w := by
  have h := run_eqlH w ho p p hx hy hp hp
  rw [decide_eq_true rfl] at h
  exact h
theorem EgAt.nil {B : Nat} {w : World} : EgAt B w (.slice none 0 0) [] [] := ⟨World.ownsRow_nil _ _ _ _, fun k => by
  rw [show ([] : List Value).getD k nilS = nilS by simp, show ([] : List (List HB)).getD k [] = [] by simp]
  exact World.ownsRow_nil _ _ _ _⟩
def L4 : List ByteArray := [str headB, str nL0, str nL1, str nT0]
def PN (v : Value) (w : World) : Prop := ∃ g c, v = .slice (some ⟨g, 0, none⟩) 4 c ∧ TextsAt w (some ⟨g, 0, none⟩) L4
theorem pn_lasts : Lasts PN := fun v w w' ⟨g, c, h1, h2⟩ u => ⟨g, c, h1, h2.later u⟩
theorem run_build4 {P : Program} (w : World) (t e : TypeId) (ie : TypeInfo) (hu : P.underlying t = some (.slice e)) (hq : P.info? e = some ie) (hz : ie.zero = some (.string ⟨#[]⟩)) (hs : ie.size = 1) (a b c d : ByteArray) :
    (Instr.buildSlice t 4 #[(0, .string a), (1, .string b), (2, .string c), (3, .string d)]).run P w = .ok (.slice (some ⟨w.heap.size, 0, none⟩) 4 4) (w.alloc (.cells #[.string a, .string b, .string c, .string d] e)) := by
  cases ie
  simp only at hs hz
  subst hs
  refine run_buildSlice (P := P) w t e 4 _ #[.string a, .string b, .string c, .string d] _ (.string ⟨#[]⟩) hu hq hz (by simp) (by simp) ?_
  simp [Instr.fill, Value.cells, Builtin.zeroCells, Array.range]
  rfl
theorem texts_new4 (w : World) : TextsAt (w.alloc (.cells #[.string (str headB), .string (str nL0), .string (str nL1), .string (str nT0)] 9)) (some ⟨w.heap.size, 0, none⟩) L4 := fun i s hs => by
  have h := cell_of_blk (blk_alloc w (.cells #[.string (str headB), .string (str nL0), .string (str nL1), .string (str nT0)] 9)) i
  have hsz : s.size ≤ 9223372036854775807 := by
    have hm := List.mem_of_getElem? hs
    simp only [L4, List.mem_cons, List.not_mem_nil, or_false] at hm
    rcases hm with rfl | rfl | rfl | rfl <;> decide
  refine ⟨hsz, _, 0, rfl, ?_⟩
  rw [Nat.zero_add, h]
  rcases i with _ | _ | _ | _ | i
  · obtain rfl := Option.some.inj hs; rfl
  · obtain rfl := Option.some.inj hs; rfl
  · obtain rfl := Option.some.inj hs; rfl
  · obtain rfl := Option.some.inj hs; rfl
  · simp [L4] at hs
theorem body_leafH : hasBody Tryz.prog 37 = true := by kernel_rfl
theorem body_nodeH : hasBody Tryz.prog 36 = true := by kernel_rfl
theorem body_names : hasBody Tryz.prog 39 = true := by kernel_rfl
theorem body_sameT : hasBody Tryz.prog 38 = true := by kernel_rfl
set_option maxRecDepth 20000 in
theorem run_hash0 (w : World) : (Instr.build 30 #[]).run Tryz.prog w = .ok (hashV z32B) w := by
  go_simp
  rfl
theorem ck_rootC {w : World} {g : Nat} {o : List UInt8} {n : Nat} {root : HB} (hq : w.heap[g]? = some (.cells (ckC o n root).toArray 32 (0, 0))) : ∀ i v, (root.map u8v)[i]? = some v → w.cell? ⟨g, 2 + i, none⟩ = some v := fun i v hv => by
  rw [cell_of_blk hq, List.getElem?_toArray]
  show (Value.string (str o) :: .int .u64 n :: (root.map u8v ++ [.slice none 0 0]))[2 + i]? = some v
  rw [show 2 + i = i + 2 by omega, List.getElem?_cons_succ, List.getElem?_cons_succ, List.getElem?_append_left (List.getElem?_eq_some_iff.1 hv).1]
  exact hv
/-- Two leaves in a new row. -/
theorem ab_cells (w : World) : CellsAt (w.alloc (.cells #[.string ⟨#[97]⟩, .string ⟨#[98]⟩] 9)) (some ⟨w.heap.size, 0, none⟩) (strC lsAB) := fun j v hv => by
  refine ⟨_, rfl, ?_⟩
  have h := cell_of_blk (blk_alloc w (.cells #[.string ⟨#[97]⟩, .string ⟨#[98]⟩] 9)) j
  rw [Addr.add_lit, Nat.zero_add, h]
  rcases j with _ | _ | j
  · exact hv
  · exact hv
  · simp [strC, lsAB] at hv
set_option maxRecDepth 20000 in
set_option maxHeartbeats 16000000 in
theorem alive25_any {B : Nat} {se : Nat → Addr} {w : World} (E : Env B se w) : Calls Tryz.prog 8 #[] w fun e w' => e = .returned (.bool true) ∧ Ext w w' := by
  have CF := fresh25_any w 0
  have HE := Lib.hid E
  have HB := Lib.hid E.g.size
  clear E
  go_enter Tryz.func8, Tryz.ntmps8
  go_wp2_with fail
  refine CF.mono ?_
  rintro e w1 ⟨b, mb, tv, rfl, hst, hb, hm, hx1⟩
  have HX1 := Lib.hid hx1
  have HBM := Lib.hid (⟨hb, hm⟩ : w.heap.size ≤ b ∧ w.heap.size ≤ mb)
  have CC := create_ok (HE.out.ext hx1) hst (show B ≤ b by have := HB.out; omega) (show B ≤ mb by have := HB.out; omega) oL name_log (by decide) (by decide) (has_none _ _ _ _ _) (by decide) emptyH rfl
  rw [put_head] at CC
  change Calls _ _ #[_, .string ⟨#[108, 111, 103]⟩] _ _ at CC
  clear hst hb hm hx1 CF
  go_wp2_with fail
  refine CC.mono ?_
  rintro e w2 ⟨hs2, hu2, hres⟩
  obtain ⟨wb, rfl, hw2, hwb⟩ : ∃ wb, e = .returned (.tuple #[.pointer (some ⟨wb, 0, none⟩), .nilIface]) ∧ WrAt w2 wb (.pointer (some ⟨b, 0, none⟩)) oL 0 emptyH (.slice none 0 0) false ∧ w1.heap.size ≤ wb := hres
  have HS2 := Lib.hid hs2
  have HW2 := Lib.hid hw2
  have HX2 : Hid (Ext w w2) := Lib.hid (HX1.out.then hu2 (fun k hk e => by have := HBM.out; rcases e with e | e <;> omega))
  have HWB := Lib.hid (show w.heap.size ≤ wb by have := HX1.out.size; omega)
  have CB := create_bad (HE.out.ext HX2.out) hs2 oL (by decide) (by decide) (.inr (has_head _ _ _ _ _ _))
  change Calls _ _ #[_, .string ⟨#[108, 111, 103]⟩] _ _ at CB
  clear hs2 hw2 hwb hu2 CC
  go_wp2_with fail
  refine CB.mono ?_
  rintro e w3 ⟨rfl, hx3⟩
  have HX3 := Lib.hid (HX2.out.trans hx3)
  have HS3 := Lib.hid (HS2.out.ext hx3)
  have HW3 := Lib.hid (HW2.out.ext hx3)
  clear hx3 CB
  have CI := is0_any (HE.out.ext HX3.out).g (v := sv se 2) (x := some (2, none)) ⟨by decide, by decide, rfl⟩ 2
  rw [show (codeOf (some (2, none)) == 2 && (!placed (some (2, none)) || placeOf (some (2, none)) == 0)) = true from rfl] at CI
  go_wp2_with fail
  refine CI.mono ?_
  rintro e w4 ⟨rfl, hx4⟩
  have HX4 := Lib.hid (HX3.out.trans hx4)
  have HS4 := Lib.hid (HS3.out.ext hx4)
  have HW4 := Lib.hid (HW3.out.ext hx4)
  have CK := ckp_any HW4.out emptyH_len
  clear hx4 CI
  go_wp2_with fail
  refine CK.mono ?_
  rintro e w5 ⟨rfl, hx5⟩
  have HX5 := Lib.hid (HX4.out.trans hx5)
  have HS5 := Lib.hid (HS4.out.ext hx5)
  have HW5 := Lib.hid (HW4.out.ext hx5)
  have CE := empty_h w5 (HE.out.ext HX5.out).sgw (HE.out.ext HX5.out).sh
  clear hx5 CK
  go_wp2_with (refine wpList_runG rfl (run_fieldCk _ rfl oL 0 emptyH emptyH_len rfl) ?_)
  refine CE.mono ?_
  rintro e w6 ⟨rfl, hx6⟩
  have HX6 := Lib.hid (HX5.out.trans hx6)
  have HS6 := Lib.hid (HS5.out.ext hx6)
  have HW6 := Lib.hid (HW5.out.ext hx6)
  clear hx6 CE
  go_wp2_with (refine wpList_runG rfl (run_neqH0 _ rfl emptyH rfl rfl emptyH_len) ?_)
  have X7 := (Upd.refl none' w6).alloc (.cells #[.string ⟨#[97]⟩, .string ⟨#[98]⟩] 9)
  have HX7 := Lib.hid (HX6.out.trans X7)
  have HLT := Lib.hid (⟨lt_of_blk HW6.out.blk, lt_of_blk HS6.out.blk, (by obtain ⟨es, c, hb⟩ := HS6.out.tex.blk; exact lt_of_blk hb)⟩ : wb < w6.heap.size ∧ b < w6.heap.size ∧ mb < w6.heap.size)
  have CA := append_any (HE.out.ext HX7.out) (HW6.out.ext X7) emptyH_len (HS6.out.ext X7) (show B ≤ b by have := HB.out; have := HBM.out; omega) (show B ≤ mb by have := HB.out; have := HBM.out; omega) (show B ≤ wb by have := HB.out; have := HWB.out; omega) (es := []) (vs := []) EgAt.nil rfl (fun e he => by cases he) (some ⟨w6.heap.size, 0, none⟩) lsAB 2 (ab_cells w6) (.inr ⟨_, _, rfl⟩) (fun ad had => by
    obtain rfl := Option.some.inj had
    have h := HLT.out
    refine ⟨?_, ?_, ?_⟩ <;> (show w6.heap.size ≠ _; omega)) (by decide) (by decide) (by decide) long_ab name_log (by decide) (by decide) (by decide)
  obtain ⟨tc, ta, tb, tt, hR⟩ := appR_ab (str (ckptB oL 0 emptyH))
  unfold ApPost at CA
  rw [hR, root_ab] at CA
  have HRZ := Lib.hid node_nz
  have HRL := Lib.hid (nodeH_len (leafH [97]) (leafH [98]))
  obtain ⟨R, hRR⟩ : ∃ R, R = nodeH (leafH [97]) (leafH [98]) := ⟨_, rfl⟩
  have HRR := Lib.hid hRR
  rw [← hRR] at CA HRZ HRL
  have HSR := Lib.hid (ck_size oL 2 R HRL.out)
  change Calls _ _ #[_, .slice _ 2 _] _ _ at CA
  clear X7 hR hRR
  refine CA.mono ?_
  rintro e w8 ⟨hs8, hu8, hres⟩
  obtain ⟨ev8, vs8, rfl, _, _⟩ := hres
  have HS8 := Lib.hid hs8
  have HX8 : Hid (Ext w w8) := Lib.hid (HX7.out.then hu8 (fun k hk e => by have h1 := HBM.out; have h2 := HWB.out; rcases e with e | e | e <;> omega))
  clear hs8 hu8 CA
  go_wp2_with (refine store_new rfl 32 _ _ rfl _ _ rfl (ckC oL 2 R) rfl HSR.out (by rw [ck_len _ _ _ HRL.out]; rfl) (ck_one _ _ _) ?_)
  have HQ9 := Lib.hid (blk_alloc w8 (.cells (ckC oL 2 R).toArray 32))
  have X9 := (Upd.refl none' w8).alloc (.cells (ckC oL 2 R).toArray 32)
  have HX9 := Lib.hid (HX8.out.trans X9)
  have HS9 := Lib.hid (HS8.out.ext X9)
  have HSZ := Lib.hid (hash_size32 R HRL.out)
  clear X9
  generalize w8.alloc (.cells (ckC oL 2 R).toArray 32) = W9 at *
  refine region_slots3 [.inl .nilIface, .inl (.bool true), .inl (.bool true), .inl (.pointer (some ⟨w8.heap.size, 1, none⟩)), .inl (.int .u64 2), .inl (.bool true), .inl (.bool true), .inl (.bool true), .inl (.pointer (some ⟨w8.heap.size, 2, none⟩)), .inl (hashV R), .inl (hashV (leafH [97])), .inl (hashV (leafH [98])), .inl (hashV R), .inl (.bool true), .inl (.bool true), .inl (.bool true), .inl (.pointer (some ⟨w8.heap.size, 2, none⟩)), .inl (hashV R), .inl (hashV z32B), .inl (.bool true), .inl (.bool true), .inl (.bool true), .inl (.pointer (some ⟨b, 0, none⟩)), .inr PN, .inr PN, .inl (.bool true), .inl (.bool true), .inl (.bool true)] (by kernel_rfl) ?_ (by rfl) (by rfl) ?_ ?_
  · intro p hp
    simp only [List.mem_cons, reduceCtorEq, Sum.inr.injEq, false_or, or_false, List.not_mem_nil, or_self] at hp
    obtain rfl : p = PN := hp
    exact pn_lasts
  rotate_left
  · intro v' w' X hv
    have h0 := slot_val3 (hv 27 _ 0 rfl rfl) rfl
    have HXF := Lib.hid (HX9.out.trans X)
    clear X hv
    refine q_norm3 (by simp only [putAll]; rewrite [h0]; go_simp; all_goals exact rfl) ?_
    go_wp2_with fail
    go_ret
    exact ⟨rfl, HXF.out⟩
  refine ⟨ty_move3 (gd_none3 rfl) rfl rfl (kn_old3 7 rfl rfl), ?_⟩
  refine ⟨ty_val3 (gd_none3 rfl) rfl (fun a w7 hX hH hN => ?_), ?_⟩
  · have h0 := (kn_new3 0 rfl rfl rfl rfl : Kn3 _ _ _ _ (.tmp 45) (.nilIface)) a w7 hH hN
    simp only [execOp, h0]
    rfl
  refine ⟨ty_move3 (gd_none3 rfl) rfl rfl (kn_new3 1 rfl rfl rfl rfl), ?_⟩
  refine ⟨ty_fieldAddr3 _ _ (gd_some3 2 rfl rfl rfl rfl rfl) rfl rfl (kn_old3 6 rfl rfl) (fun w1 => by kernel_rfl), ?_⟩
  refine ⟨ty_load13 ⟨w8.heap.size, 1, none⟩ _ (gd_some3 2 rfl rfl rfl rfl rfl) rfl rfl (kn_new3 3 rfl rfl rfl rfl) Tryz.underlying28 rfl (fun w7 hX => Ext.cellv hX (cell_of_blk HQ9.out 1)), ?_⟩
  refine ⟨ty_val3 (gd_some3 2 rfl rfl rfl rfl rfl) rfl (fun a w7 hX hH hN => ?_), ?_⟩
  · have h4 := (kn_new3 4 rfl rfl rfl rfl : Kn3 _ _ _ _ (.tmp 49) (.int .u64 2)) a w7 hH hN
    simp only [execOp, h4]
    rfl
  refine ⟨ty_pickT3 (gd_none3 rfl) rfl rfl (kn_new3 2 rfl rfl rfl rfl) (kn_new3 5 rfl rfl rfl rfl), ?_⟩
  refine ⟨ty_move3 (gd_none3 rfl) rfl rfl (kn_new3 6 rfl rfl rfl rfl), ?_⟩
  refine ⟨ty_fieldAddr3 _ _ (gd_some3 7 rfl rfl rfl rfl rfl) rfl rfl (kn_old3 6 rfl rfl) (fun w1 => by kernel_rfl), ?_⟩
  refine ⟨ty_loadAgg3 30 w8.heap.size 2 (R.map u8v) (gd_some3 7 rfl rfl rfl rfl rfl) rfl rfl (kn_new3 8 rfl rfl rfl rfl) Tryz.underlying30 rfl HSZ.out (fun w7 hX => ck_rootC (Ext.blk hX HQ9.out)), ?_⟩
  refine ⟨ty_call3 37 [.const (.string ⟨#[97]⟩)] _ (gd_some3 7 rfl rfl rfl rfl rfl) rfl body_leafH (fun a w7 hX hH hN => known_call3 rfl (leaf_h w7 ⟨#[97]⟩ (by decide) (HE.out.ext (HX9.out.trans hX)).sgw (HE.out.ext (HX9.out.trans hX)).sh)), ?_⟩
  refine ⟨ty_call3 37 [.const (.string ⟨#[98]⟩)] _ (gd_some3 7 rfl rfl rfl rfl rfl) rfl body_leafH (fun a w7 hX hH hN => known_call3 rfl (leaf_h w7 ⟨#[98]⟩ (by decide) (HE.out.ext (HX9.out.trans hX)).sgw (HE.out.ext (HX9.out.trans hX)).sh)), ?_⟩
  refine ⟨ty_call3 36 [.tmp 55, .tmp 56] _ (gd_some3 7 rfl rfl rfl rfl rfl) rfl body_nodeH (fun a w7 hX hH hN => ?_), ?_⟩
  · have h10 := (kn_new3 10 rfl rfl rfl rfl : Kn3 _ _ _ _ (.tmp 55) (hashV (leafH [97]))) a w7 hH hN
    have h11 := (kn_new3 11 rfl rfl rfl rfl : Kn3 _ _ _ _ (.tmp 56) (hashV (leafH [98]))) a w7 hH hN
    simp only [List.map_cons, List.map_nil, h10, h11]
    refine known_call3 rfl ?_
    rw [HRR.out]
    exact node_h w7 (leafH [97]) (leafH [98]) (leafH_len _) (leafH_len _) (HE.out.ext (HX9.out.trans hX)).sgw (HE.out.ext (HX9.out.trans hX)).sh
  refine ⟨ty_val3 (gd_some3 7 rfl rfl rfl rfl rfl) rfl (fun a w7 hX hH hN => ?_), ?_⟩
  · exact run_eqlH0 w7 rfl R ((kn_new3 9 rfl rfl rfl rfl : Kn3 _ _ _ _ (.tmp 54) (hashV R)) a w7 hH hN) ((kn_new3 12 rfl rfl rfl rfl : Kn3 _ _ _ _ (.tmp 57) (hashV R)) a w7 hH hN) HRL.out
  refine ⟨ty_pickT3 (gd_none3 rfl) rfl rfl (kn_new3 7 rfl rfl rfl rfl) (kn_new3 13 rfl rfl rfl rfl), ?_⟩
  refine ⟨ty_move3 (gd_none3 rfl) rfl rfl (kn_new3 14 rfl rfl rfl rfl), ?_⟩
  refine ⟨ty_fieldAddr3 _ _ (gd_some3 15 rfl rfl rfl rfl rfl) rfl rfl (kn_old3 6 rfl rfl) (fun w1 => by kernel_rfl), ?_⟩
  refine ⟨ty_loadAgg3 30 w8.heap.size 2 (R.map u8v) (gd_some3 15 rfl rfl rfl rfl rfl) rfl rfl (kn_new3 16 rfl rfl rfl rfl) Tryz.underlying30 rfl HSZ.out (fun w7 hX => ck_rootC (Ext.blk hX HQ9.out)), ?_⟩
  refine ⟨ty_val3 (gd_some3 15 rfl rfl rfl rfl rfl) rfl (fun a w7 hX hH hN => exec_build w7 [] rfl [] _ rfl (run_hash0 w7)), ?_⟩
  refine ⟨ty_val3 (gd_some3 15 rfl rfl rfl rfl rfl) rfl (fun a w7 hX hH hN => ?_), ?_⟩
  · exact run_neqH1 w7 rfl R z32B ((kn_new3 17 rfl rfl rfl rfl : Kn3 _ _ _ _ (.tmp 62) (hashV R)) a w7 hH hN) ((kn_new3 18 rfl rfl rfl rfl : Kn3 _ _ _ _ (.tmp 63) (hashV z32B)) a w7 hH hN) HRL.out z32B_len HRZ.out
  refine ⟨ty_pickT3 (gd_none3 rfl) rfl rfl (kn_new3 15 rfl rfl rfl rfl) (kn_new3 19 rfl rfl rfl rfl), ?_⟩
  refine ⟨ty_move3 (gd_none3 rfl) rfl rfl (kn_new3 20 rfl rfl rfl rfl), ?_⟩
  refine ⟨ty_move3 (gd_some3 21 rfl rfl rfl rfl rfl) rfl rfl (kn_old3 1 rfl rfl), ?_⟩
  refine ⟨ty_call13 39 _ _ _ (gd_some3 21 rfl rfl rfl rfl rfl) rfl body_names (kn_new3 22 rfl rfl rfl rfl) (fun w7 hX => by
    refine (names_any (HS9.out.ext hX) (show 4 ≤ 4398046511104 by decide)).mono ?_
    rintro e w' ⟨g, cap, rfl, hown, hx⟩
    refine ⟨_, rfl, hx, ⟨g, cap, rfl, ?_⟩⟩
    rw [names_ab] at hown
    exact texts_of_own hown (fun x hx => by
      simp only [List.mem_cons, List.not_mem_nil, or_false] at hx
      rcases hx with rfl | rfl | rfl | rfl <;> decide)), ?_⟩
  refine ⟨ty_run3 (gd_some3 21 rfl rfl rfl rfl rfl) (fun a w7 hX hH hN => ?_), ?_⟩
  · obtain ⟨i0, hi0, hz0, hz1, hz2⟩ := info_parts info_strF
    refine ⟨_, _, ?_, (Upd.refl none' w7).alloc (.cells #[.string (str headB), .string (str nL0), .string (str nL1), .string (str nT0)] 9), ⟨w7.heap.size, 4, rfl, texts_new4 w7⟩⟩
    simp only [execOp, List.map_toArray, List.map_cons, List.map_nil, Act.eval, Sem.run_bind]
    have h := run_build4 w7 22 9 i0 Tryz.underlying22 hi0 hz0 hz1 (str headB) (str nL0) (str nL1) (str nT0)
    refine Eq.trans (congrArg (fun r => Result.andThen r _) h) ?_
    rfl
  refine ⟨ty_call3 38 [.tmp 68, .tmp 69] _ (gd_some3 21 rfl rfl rfl rfl rfl) rfl body_sameT (fun a w7 hX hH hN => ?_), ?_⟩
  · obtain ⟨g1, c1, h1, t1⟩ := (new_prop3 23 hN rfl rfl rfl rfl : PN (a.eval (.tmp 68)) w7)
    obtain ⟨g2, c2, h2, t2⟩ := (new_prop3 24 hN rfl rfl rfl rfl : PN (a.eval (.tmp 69)) w7)
    simp only [List.map_cons, List.map_nil, h1, h2]
    exact known_call3 rfl (sameTexts_any t1 t2 c1 c2 (by decide))
  refine ⟨ty_pickT3 (gd_none3 rfl) rfl rfl (kn_new3 21 rfl rfl rfl rfl) (kn_new3 25 rfl rfl rfl rfl), ?_⟩
  refine ⟨ty_assign3 (gd_none3 rfl) rfl rfl (kn_new3 26 rfl rfl rfl rfl), trivial⟩

set_option maxRecDepth 20000 in
set_option maxHeartbeats 32000000 in
theorem stands_any25 {B B1 b mb lb k i : Nat} {se : Nat → Addr} {tv lv : Value} {x x' : StD} {ls : List (List UInt8)} {w : World} (E : Env B se w) (H : StAt w b mb tv x) (hB : B ≤ b) (V : NvAt B1 w lb lv ls) (hs : List HB) (h32 : H32 hs) (h1 : 1 ≤ hs.length) (h2 : hs.length ≤ 256) (hk : k ≤ 2) (hi : i ≤ 65536)
    (hn : x.nr < 4611686018427387904) (hL : x.rs.length < 4611686018427387904) (hg : x.get (str (pathB k i hs.length)) = (x', str hs.flatten, none)) (hsz : (pathB k i hs.length).length ≤ 1048576)
    (hh : ∀ j h, hs[j]? = some h → ((i * 256 + j) + 1) * 2 ^ (8 * k) ≤ ls.length ∧ h = mthP (segH ls ((i * 256 + j) * 2 ^ (8 * k)) (((i * 256 + j) + 1) * 2 ^ (8 * k)))) :
    Calls Tryz.prog 91 #[.pointer (some ⟨b, 0, none⟩), .pointer (some ⟨lb, 0, none⟩), .agg #[.int .u8 k, .int .u64 i, .int .i64 hs.length]] w fun e w' => e = .returned (.bool true) ∧ StAt w' b mb tv x' ∧ Upd (one b) w w' := by
  have HE := Lib.hid E
  have HV := Lib.hid V
  have HH := Lib.hid hh
  have H32S := Lib.hid h32
  have X1 := (Upd.refl none' w).alloc (.cells #[.int .u8 k, .int .u64 i, .int .i64 hs.length] 115)
  have HX1 := Lib.hid X1
  have hq := blk_alloc w (.cells #[.int .u8 k, .int .u64 i, .int .i64 hs.length] 115)
  have HQ := Lib.hid hq
  have CP := path_any (w.alloc (.cells #[.int .u8 k, .int .u64 i, .int .i64 hs.length] 115)) k i hs.length hk hi h1 h2 (E.ext X1).t10
  have HG : Hid (∀ w7, Ext w w7 → Calls Tryz.prog 73 #[.pointer (some ⟨b, 0, none⟩), .string (str (pathB k i hs.length))] w7 fun e w' => e = .returned (.tuple #[.string (str hs.flatten), .nilIface]) ∧ StAt w' b mb tv x' ∧ Upd (one b) w7 w') := Lib.hid (fun w7 h7 => by
    have h9 := get_any (HE.out.ext h7).g (H.ext h7) hB (str (pathB k i hs.length)) (by rw [str_size]; exact Nat.le_trans hsz (by decide)) hn hL
    rw [hg] at h9
    exact h9)
  have HBT := Lib.hid (show ∃ cs, w.heap[b]? = some (.cells cs 51 (0, 0)) from ⟨_, H.blk⟩)
  have HD : Hid (∀ w7, Calls Tryz.prog 135 #[.string (str hs.flatten), .int .i64 hs.length] w7 fun e w' => ∃ v, e = .returned (.tuple #[v, .nilIface]) ∧ w'.ownsRow w7.heap.size 30 32 v hs.length (hcells hs) ∧ Ext w7 w') := Lib.hid (fun w7 => tdec_any w7 hs h32 h1 h2)
  obtain ⟨n, hnn⟩ : ∃ n, n = hs.length := ⟨_, rfl⟩
  have HN := Lib.hid (And.intro hnn (And.intro h1 h2))
  rw [← hnn] at CP HG HD HX1 HQ ⊢
  have HK := Lib.hid (And.intro hk hi)
  clear E V hh h32 X1 hq h1 h2 hn hL hg hsz H hnn
  go_enter Tryz.func91, Tryz.ntmps91
  have q0 := cell_of_blk HQ.out 0
  have q1 := cell_of_blk HQ.out 1
  have q2 := cell_of_blk HQ.out 2
  simp only [List.size_toArray, List.getElem?_toArray, List.getElem?_cons_zero, List.getElem?_cons_succ] at q0 q1 q2
  go_wp2_with fail
  refine CP.mono ?_
  rintro e w1 ⟨rfl, hx⟩
  have HX2 := Lib.hid (HX1.out.trans hx)
  have HQ2 := Lib.hid (Ext.blk hx HQ.out)
  have CG := HG.out w1 HX2.out
  generalize w.alloc (.cells #[.int .u8 k, .int .u64 i, .int .i64 n] 115) = W at *
  obtain ⟨qb, hqb⟩ : ∃ g, g = w.heap.size := ⟨_, rfl⟩
  rw [← hqb] at HQ HQ2 ⊢
  have HQB := Lib.hid hqb
  clear hx CP q0 q1 q2 hqb
  go_wp2_with fail
  refine CG.mono ?_
  rintro e w2 ⟨rfl, hst, hu⟩
  have HST := Lib.hid hst
  have HU2 := Lib.hid hu
  have hne : qb ≠ b := fun e => by
    obtain ⟨cs, h9⟩ := HBT.out
    have := lt_of_blk h9
    have := HQB.out
    omega
  have HQ3 := Lib.hid (hu.blk HQ2.out hne)
  have hlb : lb ≠ b := fun e => by
    obtain ⟨cs, h9⟩ := HBT.out
    have h8 := HV.out.blk
    rw [e, h9] at h8
    simp at h8
  have HV2 : Hid (NvAt B1 w2 lb lv ls) := Lib.hid ((HV.out.ext HX2.out).upd hu hlb (fun g hg e => by
    obtain ⟨c9, h8⟩ := row_type HV.out.row hg
    obtain ⟨cs, h9⟩ := HBT.out
    rw [show g = b from e, h9] at h8
    simp at h8))
  have HE2 : Hid (Env B se w2) := Lib.hid ((HE.out.ext HX2.out).upd hu (fun g hg => by rw [show g = b from hg]; exact hB))
  have CD := HD.out w2
  have q2 := cell_of_blk HQ3.out 2
  simp only [List.size_toArray, List.getElem?_toArray, List.getElem?_cons_zero, List.getElem?_cons_succ] at q2
  clear CG hst hu hne hlb
  go_wp2_with fail
  refine CD.mono ?_
  rintro e w3 ⟨v, rfl, hown, hx⟩
  obtain ⟨g, c, rfl, hcr⟩ : ∃ g c, v = .slice (some ⟨g, 0, none⟩) n c ∧ ∀ j u, (hcells hs)[j]? = some u → w3.cell? ⟨g, j, none⟩ = some u := by
    rcases own_form hown with ⟨_, h0⟩ | ⟨g, c, h9, _⟩
    · have := HN.out; omega
    · exact ⟨g, c, h9, fun j u hu => by
        have h8 := hown.cells (g := g) (by rw [h9]; rfl) j u hu
        rwa [Addr.add_lit, Nat.zero_add] at h8⟩
  have HCR := Lib.hid hcr
  have HX3 := Lib.hid hx
  have HQ4 := Lib.hid (Ext.blk hx HQ3.out)
  have p0 : w3.cell? ⟨qb, 0, none⟩ = some (.int .u8 k) := by have := cell_of_blk HQ4.out 0; simpa using this
  obtain ⟨Ev, hEv⟩ : ∃ Ev, Ev = 8 * k := ⟨_, rfl⟩
  obtain ⟨Z, hZ⟩ : ∃ Z, Z = 2 ^ Ev := ⟨_, rfl⟩
  have h8 : IntKind.u8.wrap (8 * (k : Int)) = Ev := by rw [IntKind.wrap_u8']; have := HK.out; omega
  have HEV := Lib.hid (show Ev ≤ 64 ∧ 1 * 2 ^ Ev = Z ∧ Z < 18446744073709551616 ∧ Z = 2 ^ (8 * k) from ⟨by have := HK.out; omega, by omega, by rw [hZ]; exact Nat.lt_of_le_of_lt (Nat.pow_le_pow_right (by decide) (show Ev ≤ 16 by have := HK.out; omega)) (by decide), by rw [hZ, hEv]⟩)
  clear hown hcr hx CD q2 hEv hZ
  go_wp2_with (refine wpList_run rfl (run_bop _ rfl (.int .u64 (1 : Nat)) (.int .u8 Ev) (.int .u64 Z) rfl rfl (run_shlU .u8 1 Ev Z HEV.out.1 HEV.out.2.1 HEV.out.2.2.1 _)) ?_)
  go_loopw [14, 15, 16, 17] (fun jv _ _ _ wr => ∃ j : Nat, j ≤ n ∧ jv = .int .i64 j ∧ Ext w3 wr) (fun jv _ _ _ _ => n - (RowKit.intOf jv).toNat)
  case atStart => exact ⟨0, Nat.zero_le _, rfl, Upd.refl _ _⟩
  case round =>
    obtain ⟨j, hj, rfl, hxr⟩ := hrel
    have HXR := Lib.hid hxr
    clear hxr
    by_cases hlt : j < n
    · have hlti : (j : Int) < n := by omega
      obtain ⟨h, hhj⟩ : ∃ h, hs[j]? = some h := ⟨_, List.getElem?_eq_getElem (by rw [← HN.out.1]; exact hlt)⟩
      obtain ⟨hle, heq⟩ := HH.out j h hhj
      rw [← HEV.out.2.2.2] at hle heq
      have hcnt := HV.out.cnt
      have hN256 := HN.out.2.2
      have hNn := HN.out.1
      have hZ1 : 1 ≤ Z := by rw [HEV.out.2.2.2]; exact Nat.pow_pos (by decide)
      obtain ⟨I, hI⟩ : ∃ I, I = i * 256 := ⟨_, rfl⟩
      obtain ⟨T, hT⟩ : ∃ T, T = i * 256 + j := ⟨_, rfl⟩
      obtain ⟨F, hF⟩ : ∃ F, F = T * Z := ⟨_, rfl⟩
      obtain ⟨G, hG⟩ : ∃ G, G = F + Z := ⟨_, rfl⟩
      have hTZ : (T + 1) * Z = G := by rw [hG, hF, Nat.succ_mul]
      rw [← hT] at hle heq
      rw [hTZ, ← hF] at heq
      rw [hTZ] at hle
      have hi65 := HK.out.2
      have hwI : IntKind.u64.wrap ((i : Int) * 256) = I := by rw [IntKind.wrap_u64]; omega
      have hwj : IntKind.u64.wrap (j : Int) = j := by rw [IntKind.wrap_u64]; omega
      have hwT : IntKind.u64.wrap ((I : Int) + j) = T := by rw [IntKind.wrap_u64]; omega
      have hwF : IntKind.u64.wrap ((T : Int) * Z) = F := by
        have e9 : (T : Int) * Z = F := by rw [hF]; simp
        rw [e9, IntKind.wrap_u64]
        omega
      have hwG : IntKind.u64.wrap ((F : Int) + Z) = G := by rw [IntKind.wrap_u64]; omega
      have CT := ntree_any ((HV2.out.ext HX3.out).ext HXR.out) F G (by omega) hle (((HE2.out.ext HX3.out).ext HXR.out).sgw) (((HE2.out.ext HX3.out).ext HXR.out).sh)
      rw [← heq] at CT
      have hh32 := H32S.out h (List.mem_of_getElem? hhj)
      have HH32 := Lib.hid hh32
      have HSL := Lib.hid (hash_size32 h hh32)
      have HCJ : Hid (∀ t u, (h.map u8v)[t]? = some u → w3.cell? ⟨g, 0 + j * 32 + t, none⟩ = some u) := Lib.hid (fun t u hu => by
        have ht : t < 32 := by have := (List.getElem?_eq_some_iff.1 hu).1; rw [List.length_map, hh32] at this; exact this
        have h9 := HCR.out (j * 32 + t) u (hcells_at hhj H32S.out t u hu ht)
        rwa [Nat.zero_add])
      have HLT := Lib.hid hlt
      have p1 : wr.cell? ⟨qb, 1, none⟩ = some (.int .u64 i) := by have := cell_of_blk (Ext.blk HXR.out HQ4.out) 1; simpa using this
      clear hle heq hhj hcnt hI hT hF hG hTZ hlt hj hNn
      go_wp2_with fail
      refine CT.mono ?_
      rintro e w4 ⟨rfl, hx⟩
      have HX4 := Lib.hid (HXR.out.trans hx)
      have HQA := Lib.hid (blk_alloc w4 (.cells zero32 30))
      clear CT hx p1
      go_wp2_with (refine wpList_storeAgg rfl 30 _ _ rfl w4.heap.size 0 rfl (h.map u8v) rfl HSL.out zero32.toList 30 HQA.out (by rw [List.length_map, HH32.out]; exact Nat.le_refl _) (u8_ones h) ?_)
      rw [show over zero32.toList 0 (h.map u8v) = h.map u8v from over_all _ _ (by rw [List.length_map, HH32.out]; rfl)]
      have HQW := Lib.hid (blk_setRow HQA.out (h.map u8v).toArray)
      have HXW : Hid (Ext w3 ((w4.alloc (.cells zero32 30)).setRow w4.heap.size (h.map u8v).toArray)) := Lib.hid ((HX4.out.alloc (.cells zero32 30)).setRow (.inl HX4.out.size) _)
      obtain ⟨kq, hkq⟩ : ∃ g, g = w4.heap.size := ⟨_, rfl⟩
      rw [← hkq] at HQW HXW ⊢
      generalize (w4.alloc (.cells zero32 30)).setRow kq (h.map u8v).toArray = U at *
      have HCA : Hid (∀ t u, (h.map u8v)[t]? = some u → U.cell? ⟨kq, 0 + t, none⟩ = some u) := Lib.hid (blk_cells HQW.out)
      clear hkq HQA
      go_upto_region 12 with fail
      refine region_gen 10 [] (fun _ w' => Ext U w') (fun _ => Ext) [.inl .nilIface, .inl (.bool false), .inl (.bool false), .inl (.agg (h.map u8v).toArray), .inl (.slice (some ⟨g, 0, none⟩) n c), .inl (.int .i64 j), .inl (.pointer (some ⟨g, 0 + j * 32, none⟩)), .inl (.agg (h.map u8v).toArray), .inl (.bool false), .inl (.bool false)] (by kernel_rfl) (fun _ _ => Upd.refl _ _) trivial (by kernel_rfl) (by kernel_rfl) (by rfl) (by rfl) (by rfl) (by rfl) ((Upd.refl none' U).drew) ?_ ?_
      rotate_left
      · intro v' w' hJ hv
        have hs0 := slot_val3 (hv 0 _ 74 rfl rfl) rfl
        have hs1 := slot_val3 (hv 1 _ 75 rfl rfl) rfl
        have hs2 := slot_val3 (hv 2 _ 76 rfl rfl) rfl
        have hs3 := slot_val3 (hv 3 _ 77 rfl rfl) rfl
        have hs4 := slot_val3 (hv 4 _ 78 rfl rfl) rfl
        have hs5 := slot_val3 (hv 5 _ 79 rfl rfl) rfl
        have hs6 := slot_val3 (hv 6 _ 80 rfl rfl) rfl
        have hs7 := slot_val3 (hv 7 _ 81 rfl rfl) rfl
        have hs8 := slot_val3 (hv 8 _ 82 rfl rfl) rfl
        have hs9 := slot_val3 (hv 9 _ 83 rfl rfl) rfl
        refine gn_norm (by simp only [List.take, putAll]; rewrite [hs0, hs1, hs2, hs3, hs4, hs5, hs6, hs7, hs8, hs9]; go_simp; all_goals exact rfl) ?_
        clear hv hs0 hs1 hs2 hs3 hs4 hs5 hs6 hs7 hs8 hs9
        refine wpAny_done (by kernel_rfl) ?_ _
        have HXJ := Lib.hid (HXW.out.trans (show Ext U w' from hJ))
        clear hJ
        have hjb : j < 1048576 := by have h1 := HLT.out; have h2 := HN.out.2.2; have h3 := HN.out.1; omega
        go_wp2_with fail
        have hlt := HLT.out
        go_roundw
        case rel => exact ⟨j + 1, by omega, by first | rfl | (simp <;> omega), HXJ.out⟩
        case measure => simp [RowKit.intOf] <;> omega
      refine ⟨g_move (fun _ _ => Upd.refl _ _) rfl (gd_none3 rfl) rfl rfl (kn_old3 17 rfl rfl), ?_⟩
      refine ⟨g_bin (x := (.tmp 74)) (y := (.const .nilIface)) (fun _ _ => Upd.refl _ _) rfl (gd_none3 rfl) rfl (kn_new3 0 rfl rfl rfl rfl) kn_const3 (fun ev w h1 h2 => by simp only [execOp, h1, h2]; go_simp), ?_⟩
      refine ⟨g_move (fun _ _ => Upd.refl _ _) rfl (gd_none3 rfl) rfl rfl (kn_new3 1 rfl rfl rfl rfl), ?_⟩
      refine ⟨g_loadAgg 30 kq 0 _ (fun _ _ => Upd.refl _ _) rfl (gd_some3 2 rfl rfl rfl rfl rfl) rfl rfl (kn_old3 16 rfl rfl) Tryz.underlying30 rfl HSL.out (fun p w7 _ _ hj t u hu => Ext.cellv hj (HCA.out t u hu)), ?_⟩
      refine ⟨g_move (fun _ _ => Upd.refl _ _) rfl (gd_some3 2 rfl rfl rfl rfl rfl) rfl rfl (kn_old3 11 rfl rfl), ?_⟩
      refine ⟨g_move (fun _ _ => Upd.refl _ _) rfl (gd_some3 2 rfl rfl rfl rfl rfl) rfl rfl (kn_old3 14 rfl rfl), ?_⟩
      refine ⟨g_index g 0 n c j 32 _ (fun _ _ => Upd.refl _ _) rfl (gd_some3 2 rfl rfl rfl rfl rfl) rfl rfl (kn_new3 4 rfl rfl rfl rfl) (kn_new3 5 rfl rfl rfl rfl) HLT.out Tryz.underlying65 (by rfl), ?_⟩
      refine ⟨g_loadAgg 30 g (0 + j * 32) _ (fun _ _ => Upd.refl _ _) rfl (gd_some3 2 rfl rfl rfl rfl rfl) rfl rfl (kn_new3 6 rfl rfl rfl rfl) Tryz.underlying30 rfl HSL.out (fun p w7 _ _ hj t u hu => Ext.cellv (HXW.out.trans hj) (HCJ.out t u hu)), ?_⟩
      refine ⟨g_read (fun _ _ => Upd.refl _ _) rfl (gd_some3 2 rfl rfl rfl rfl rfl) rfl (fun p a w7 _ _ _ hH hN => run_neqH0 w7 rfl h ((kn_new3 3 rfl rfl rfl rfl) a w7 hH hN) ((kn_new3 7 rfl rfl rfl rfl) a w7 hH hN) HH32.out), ?_⟩
      refine ⟨g_bin (x := (.tmp 76)) (y := (.tmp 82)) (fun _ _ => Upd.refl _ _) rfl (gd_none3 rfl) rfl (kn_new3 2 rfl rfl rfl rfl) (kn_new3 8 rfl rfl rfl rfl) (fun ev w h1 h2 => by simp [execOp, h1, h2, asBool]), ?_⟩
      exact trivial
    · have hlti : ¬ (j : Int) < n := by omega
      go_wp2_with fail
      go_ret
      exact ⟨rfl, HST.out.ext (HX3.out.trans HXR.out), ((HX2.out.mono (fun _ _ h => h.elim)).trans HU2.out).trans ((HX3.out.trans HXR.out).mono (fun _ _ h => h.elim))⟩

/-- The tiles of a level, of the first levels. -/
def rowTl (n k : Nat) : List (Nat × Nat × Nat) := (List.range ((n / 2 ^ (8 * k) + 255) / 256)).map fun i => (k, i, min (n / 2 ^ (8 * k) - i * 256) 256)
def allT (n : Nat) : Nat → List (Nat × Nat × Nat)
  | 0 => []
  | k + 1 => allT n k ++ rowTl n k
def tlC (t : Nat × Nat × Nat) : List Value := [.int .u8 t.1, .int .u64 t.2.1, .int .i64 t.2.2]
def tilesCs (l : List (Nat × Nat × Nat)) : List Value := l.flatMap tlC
theorem tilesCs_app (a b : List (Nat × Nat × Nat)) : tilesCs (a ++ b) = tilesCs a ++ tilesCs b := by simp [tilesCs]
theorem rowTl_nil {n k : Nat} (h : n / 2 ^ (8 * k) = 0) : rowTl n k = [] := by
  unfold rowTl
  rw [h]
  rfl
theorem rowTl_len (n k : Nat) : (rowTl n k).length = (n / 2 ^ (8 * k) + 255) / 256 := by simp [rowTl]
theorem rowTl_take {n k i : Nat} (h : i * 256 < n / 2 ^ (8 * k)) : (rowTl n k).take (i + 1) = (rowTl n k).take i ++ [(k, i, min (n / 2 ^ (8 * k) - i * 256) 256)] := by
  have hi : i < (rowTl n k).length := by rw [rowTl_len]; omega
  rw [List.take_add_one, List.getElem?_eq_getElem hi]
  simp [rowTl]
theorem div_mono {n j k : Nat} (hjk : j ≤ k) (h : n / 2 ^ (8 * j) = 0) : n / 2 ^ (8 * k) = 0 := by
  have h1 : n < 2 ^ (8 * j) := by
    rcases Nat.lt_or_ge n (2 ^ (8 * j)) with h2 | h2
    · exact h2
    · have := Nat.div_pos h2 (Nat.pow_pos (by decide)); omega
  exact Nat.div_eq_of_lt (Nat.lt_of_lt_of_le h1 (Nat.pow_le_pow_right (by decide) (by omega)))
theorem allT_end {n k : Nat} (h : n / 2 ^ (8 * k) = 0) : ∀ i, allT n (k + i) = allT n k
  | 0 => rfl
  | i + 1 => by
    rw [← Nat.add_assoc, allT, rowTl_nil (div_mono (Nat.le_add_right k i) h), List.append_nil]
    exact allT_end h i
theorem rowTl_le {n k : Nat} (hn : n ≤ 1048576) : (rowTl n k).length ≤ 4096 := by
  rw [rowTl_len]
  have := Nat.div_le_self n (2 ^ (8 * k))
  omega
theorem allT_le {n : Nat} (hn : n ≤ 1048576) : ∀ k, (allT n k).length ≤ 4096 * k
  | 0 => Nat.le_refl _
  | k + 1 => by
    rw [allT, List.length_append]
    have := allT_le hn k
    have := rowTl_le (k := k) hn
    omega
theorem info_tile : (Tryz.prog.info? 115).map (fun i => (i.zero, i.size, i.bytes)) = some (some (.agg #[.int .u8 0, .int .u64 0, .int .i64 0]), 3, 24) := by kernel_rfl
def TaRel (w : World) (n : Nat) (lv kv : Value) (wr : World) : Prop :=
  ∃ k : Nat, k ≤ 3 ∧ kv = .int .u8 k ∧ wr.ownsRow w.heap.size 115 3 lv (allT n k).length (tilesCs (allT n k)) ∧ Ext w wr
def TbRel (w : World) (n k : Nat) (lv iv : Value) (wr : World) : Prop :=
  ∃ i : Nat, i ≤ (rowTl n k).length ∧ iv = .int .u64 i ∧ wr.ownsRow w.heap.size 115 3 lv ((allT n k).length + i) (tilesCs (allT n k ++ (rowTl n k).take i)) ∧ Ext w wr
set_option maxRecDepth 20000 in
set_option maxHeartbeats 16000000 in
theorem tall_any (w : World) (n : Nat) (hn : n ≤ 1048576) :
    Calls Tryz.prog 85 #[.int .u64 n] w fun e w' => ∃ v, e = .returned (.tuple #[v, .nilIface]) ∧ w'.ownsRow w.heap.size 115 3 v (allT n 3).length (tilesCs (allT n 3)) ∧ Ext w w' := by
  obtain ⟨i0, hi0, hz0, hz1, hz2⟩ := info_parts info_tile
  have HN := Lib.hid hn
  have hn20 : ¬ (1048576 : Int) < n := by omega
  clear hn
  go_enter Tryz.func85, Tryz.ntmps85
  go_wp2_with fail
  go_loopw [4, 5, 6, 7, 8] (fun lv kv _ _ _ wr => TaRel w n lv kv wr) (fun _ kv _ _ _ _ => 4 - (RowKit.intOf kv).toNat)
  case atStart => exact ⟨0, Nat.zero_le _, rfl, World.ownsRow_nil _ _ _ _, Upd.refl _ _⟩
  case round =>
    obtain ⟨k, hk, rfl, hown, hu⟩ := hrel
    have HU := Lib.hid hu
    have HO := Lib.hid hown
    have HK := Lib.hid hk
    obtain ⟨A, c, rfl⟩ := own_sl hown
    obtain ⟨S, hS⟩ : ∃ S, S = n / 2 ^ (8 * k) := ⟨_, rfl⟩
    have hSb : S ≤ 1048576 := by rw [hS]; exact Nat.le_trans (Nat.div_le_self _ _) HN.out
    have HS := Lib.hid hS
    obtain ⟨E, hE⟩ : ∃ E, E = 8 * k := ⟨_, rfl⟩
    have h8 : IntKind.u8.wrap (8 * (k : Int)) = E := by rw [IntKind.wrap_u8']; omega
    have HE := Lib.hid (show E ≤ 64 ∧ n / 2 ^ E = S from ⟨by omega, by rw [hE, hS]⟩)
    clear hown hu hS hE
    by_cases hp : 0 < S
    · have hpi : (0 : Int) < S := by omega
      have hk2 : k ≤ 2 := by
        rcases Nat.lt_or_ge 2 k with h | h
        · have e : k = 3 := by omega
          rw [HS.out, e] at hp
          have := HN.out
          have h9 : n / 2 ^ (8 * 3) = 0 := Nat.div_eq_of_lt (by omega)
          omega
        · exact h
      have HK2 := Lib.hid hk2
      generalize wr = V at *
      go_wp2_with (refine wpList_run rfl (run_bop _ rfl (.int .u64 n) (.int .u8 E) (.int .u64 S) rfl rfl (run_shrU .u8 n E S HE.out.1 HE.out.2 _)) ?_)
      go_loopw [4, 6, 7, 8] (fun lv iv _ _ wr => TbRel w n k lv iv wr) (fun _ iv _ _ _ => (rowTl n k).length + 1 - (RowKit.intOf iv).toNat)
      case atStart => exact ⟨0, Nat.zero_le _, rfl, by rw [List.take_zero, List.append_nil]; exact HO.out, HU.out⟩
      case round =>
        obtain ⟨i, hi, rfl, hown, hu⟩ := hrel
        have HI := Lib.hid hi
        have HOI := Lib.hid hown
        have HUI := Lib.hid hu
        obtain ⟨A2, c2, rfl⟩ := own_sl hown
        have hi20 : i ≤ 1048576 := by have := rowTl_le (k := k) HN.out; omega
        have CI := tin_any wr k i n (by omega) hi20 HN.out S HS.out
        clear hown hu
        by_cases hin : i * 256 < S
        · rw [if_pos hin, decide_eq_true hin] at CI
          unfold tlV at CI
          obtain ⟨M, hM⟩ : ∃ M, M = min (S - i * 256) 256 := ⟨_, rfl⟩
          rw [← hM] at CI
          have HM := Lib.hid hM
          have HIN := Lib.hid hin
          obtain ⟨L, hL⟩ : ∃ L, L = (allT n k).length + i := ⟨_, rfl⟩
          have HL := Lib.hid hL
          rw [← hL] at HOI ⊢
          clear hM hin hL hi
          go_wp2_with fail
          refine CI.mono ?_
          rintro e w2 ⟨rfl, hx⟩
          clear CI
          have HX2 := Lib.hid ((hx.alloc (.cells #[.int .u8 k, .int .u64 i, .int .i64 M] 115)).alloc (.cells ([.int .u8 k, .int .u64 i, .int .i64 M] : List Value).toArray 115))
          have HO2 := Lib.hid (ownsRow_upd HOI.out HX2.out (fun _ _ => id))
          have hsz2 : (w2.alloc (.cells #[.int .u8 k, .int .u64 i, .int .i64 M] 115)).heap.size = w2.heap.size + 1 := World.size_alloc _ _
          have HCN : Hid (CellsAt ((w2.alloc (.cells #[.int .u8 k, .int .u64 i, .int .i64 M] 115)).alloc (.cells ([.int .u8 k, .int .u64 i, .int .i64 M] : List Value).toArray 115)) (some ⟨w2.heap.size + 1, 0, none⟩) [.int .u8 k, .int .u64 i, .int .i64 M]) := Lib.hid (fun j u hu => ⟨_, rfl, by
            rw [Addr.add_lit, ← hsz2]
            exact blk_cells (blk_alloc (w2.alloc (.cells #[.int .u8 k, .int .u64 i, .int .i64 M] 115)) (.cells ([.int .u8 k, .int .u64 i, .int .i64 M] : List Value).toArray 115)) j u hu⟩)
          have HO1 : Hid (∀ u ∈ ([.int .u8 k, .int .u64 i, .int .i64 M] : List Value), u.oneCell' = true) := Lib.hid (by
            intro u hu
            simp only [List.mem_cons, List.not_mem_nil, or_false] at hu
            rcases hu with rfl | rfl | rfl <;> rfl)
          have HLM : Hid (L + 1 ≤ maxLen ∧ (L + 1) * 24 ≤ 140737488355328) := Lib.hid (by unfold maxLen; have := HL.out; have := allT_le HN.out k; have := HK2.out; omega)
          have HBW := Lib.hid (Nat.le_trans HUI.out.size HX2.out.size)
          clear hsz2 hx
          go_wp2_with (at_builtin; (refine wpList_appX rfl _ _ 152 rfl w.heap.size 115 i0 _ 3 24 Tryz.underlying152 hi0 hz0 hz1 hz2 rfl (by decide) (.slice A2 L c2) L _ rfl HO2.out (some ⟨w2.heap.size + 1, 0, none⟩) 1 1 [.int .u8 k, .int .u64 i, .int .i64 M] rfl rfl HCN.out HO1.out HLM.out.1 HLM.out.2 HBW.out ?_))
          intro A7 c7 w7 hown7 hgrow7 _
          have HU7 : Hid (Ext w w7) := Lib.hid ((HUI.out.trans HX2.out).grown hgrow7 (fun g hg => .inl (HO2.out.lt g hg).1))
          have HO7 := Lib.hid hown7
          have hwi : IntKind.u64.wrap ((i : Int) + 1) = ((i + 1 : Nat) : Int) := by rw [IntKind.wrap_u64]; omega
          clear hown7 hgrow7
          go_wp2_with fail
          have hlen := rowTl_len n k
          have hin := HIN.out
          have hs := HS.out
          have hl := HL.out
          go_roundw
          case rel =>
            refine ⟨i + 1, by omega, by first | rfl | simp, ?_, HU7.out⟩
            rw [rowTl_take (by rw [← hs]; exact hin), ← List.append_assoc, tilesCs_app, ← hs, ← HM.out, ← Nat.add_assoc, ← hl]
            exact HO7.out
          case measure => simp [RowKit.intOf] <;> omega
        · rw [if_neg hin, decide_eq_false hin] at CI
          unfold tlV at CI
          have hie : i = (rowTl n k).length := by have := rowTl_len n k; have := HS.out; have := HI.out; omega
          have HEND : Hid (wr.ownsRow w.heap.size 115 3 (.slice A2 ((allT n k).length + i) c2) (allT n (k + 1)).length (tilesCs (allT n (k + 1)))) := Lib.hid (by
            have h9 := HOI.out
            rw [hie, List.take_length] at h9
            rw [hie, allT, List.length_append]
            exact h9)
          obtain ⟨L, hL⟩ : ∃ L, L = (allT n k).length + i := ⟨_, rfl⟩
          rw [← hL] at HEND ⊢
          clear hin hL hi hie
          go_wp2_with fail
          refine CI.mono ?_
          rintro e w2 ⟨rfl, hx⟩
          clear CI
          have HX2 := Lib.hid (hx.alloc (.cells #[.int .u8 0, .int .u64 0, .int .i64 0] 115))
          have hwk : IntKind.u8.wrap ((k : Int) + 1) = ((k + 1 : Nat) : Int) := by rw [IntKind.wrap_u8']; have := HK2.out; omega
          clear hx
          go_wp2_with fail
          have hk2 := HK2.out
          go_roundw
          case rel => exact ⟨k + 1, by omega, by first | rfl | simp, ownsRow_upd HEND.out HX2.out (fun _ _ => id), HUI.out.trans HX2.out⟩
          case measure => simp [RowKit.intOf] <;> omega
    · have hpi : ¬ (0 : Int) < S := by omega
      have hS0 : S = 0 := by omega
      have HEQ : Hid (allT n 3 = allT n k) := Lib.hid (by
        have h9 := allT_end (n := n) (k := k) (by rw [← HS.out]; exact hS0) (3 - k)
        rwa [show k + (3 - k) = 3 by omega] at h9)
      subst hS0
      go_wp2_with (refine wpList_run rfl (run_bop _ rfl (.int .u64 n) (.int .u8 E) (.int .u64 (0 : Nat)) rfl rfl (run_shrU .u8 n E 0 HE.out.1 HE.out.2 _)) ?_)
      go_ret2
      exact ⟨_, rfl, by rw [HEQ.out]; exact HO.out, HU.out⟩

/-- The hashes of a tile of a log. -/
def tileH (ls : List (List UInt8)) (t : Nat × Nat × Nat) : List HB := (List.range t.2.2).map fun j => mthP (segH ls ((t.2.1 * 256 + j) * 2 ^ (8 * t.1)) (((t.2.1 * 256 + j) + 1) * 2 ^ (8 * t.1)))
/-- A store's texts hold a log and its checkpoint. -/
structure Holds (T : TxtL) (o : List UInt8) (ls : List (List UInt8)) : Prop where
  ck : lookL T (str headB) = some (str (ckptB o ls.length (mthP (segH ls 0 ls.length))))
  lf : ∀ i s, ls[i]? = some s → lookL T (leafN i) = some (str s)
  tl : ∀ t ∈ allT ls.length 3, lookL T (str (pathB t.1 t.2.1 t.2.2)) = some (str (tileH ls t).flatten)
theorem get_look {T : TxtL} {r : Nat} {s t : ByteArray} (hs : 1 ≤ s.size ∧ s.size ≤ 256) (h : lookL T s = some t) : StD.get ⟨T, [], 0, r, 0, false⟩ s = (⟨T, [], 0, r + 1, 0, false⟩, t, none) := by
  unfold StD.get StD.refuse nameOk
  rw [if_pos (decide_eq_true hs)]
  simp [h]
theorem tileH_32 (ls : List (List UInt8)) (t : Nat × Nat × Nat) : H32 (tileH ls t) := fun h hh => by
  obtain ⟨j, _, rfl⟩ := List.mem_map.1 hh
  exact mthP_len _ (segH_32 _ _ _)
theorem tileH_len (ls : List (List UInt8)) (t : Nat × Nat × Nat) : (tileH ls t).length = t.2.2 := by simp [tileH]
theorem rowTl_mem {n k : Nat} {t : Nat × Nat × Nat} (h : t ∈ rowTl n k) : t.1 = k ∧ t.2.1 * 256 < n / 2 ^ (8 * k) ∧ t.2.2 = min (n / 2 ^ (8 * k) - t.2.1 * 256) 256 := by
  obtain ⟨i, hi, rfl⟩ := List.mem_map.1 h
  rw [List.mem_range] at hi
  exact ⟨rfl, by show i * 256 < _; omega, rfl⟩
theorem allT_mem {n : Nat} {t : Nat × Nat × Nat} : ∀ {K : Nat}, t ∈ allT n K → t.1 < K ∧ t.2.1 * 256 < n / 2 ^ (8 * t.1) ∧ t.2.2 = min (n / 2 ^ (8 * t.1) - t.2.1 * 256) 256
  | 0, h => by cases h
  | K + 1, h => by
    rcases List.mem_append.1 h with h | h
    · obtain ⟨h1, h2⟩ := allT_mem h
      exact ⟨by omega, h2⟩
    · obtain ⟨h1, h2⟩ := rowTl_mem h
      rw [h1]
      exact ⟨Nat.lt_succ_self K, h2⟩
theorem tile_facts {ls : List (List UInt8)} (hc : ls.length ≤ 1048576) {t : Nat × Nat × Nat} (h : t ∈ allT ls.length 3) : t.1 ≤ 2 ∧ t.2.1 ≤ 65536 ∧ 1 ≤ t.2.2 ∧ t.2.2 ≤ 256 ∧
    ∀ j x, (tileH ls t)[j]? = some x → ((t.2.1 * 256 + j) + 1) * 2 ^ (8 * t.1) ≤ ls.length ∧ x = mthP (segH ls ((t.2.1 * 256 + j) * 2 ^ (8 * t.1)) (((t.2.1 * 256 + j) + 1) * 2 ^ (8 * t.1))) := by
  obtain ⟨h1, h2, h3⟩ := allT_mem h
  have hd := Nat.div_le_self ls.length (2 ^ (8 * t.1))
  refine ⟨by omega, by omega, by omega, by omega, fun j x hj => ?_⟩
  have hjl := (List.getElem?_eq_some_iff.1 hj).1
  rw [tileH_len] at hjl
  refine ⟨?_, ?_⟩
  · have h4 : t.2.1 * 256 + j + 1 ≤ ls.length / 2 ^ (8 * t.1) := by omega
    exact Nat.le_trans (Nat.mul_le_mul_right _ h4) (Nat.div_mul_le_self _ _)
  · have h5 := (List.getElem?_eq_some_iff.1 hj).2
    rw [← h5]
    simp [tileH]
theorem tilesCs_get : ∀ {l : List (Nat × Nat × Nat)} {j : Nat} {t : Nat × Nat × Nat}, l[j]? = some t → ∀ c u, (tlC t)[c]? = some u → (tilesCs l)[j * 3 + c]? = some u
  | [], j, t, h, c, u, hu => by cases h
  | x :: l, 0, t, h, c, u, hu => by
    cases h
    have hc : c < (tlC x).length := (List.getElem?_eq_some_iff.1 hu).1
    rw [tilesCs, List.flatMap_cons, Nat.zero_mul, Nat.zero_add, List.getElem?_append_left hc]
    exact hu
  | x :: l, j + 1, t, h, c, u, hu => by
    rw [tilesCs, List.flatMap_cons, List.getElem?_append_right (by simp [tlC]; omega), show (tlC x).length = 3 from rfl, show (j + 1) * 3 + c - 3 = j * 3 + c by omega]
    exact tilesCs_get (by simpa using h) c u hu
theorem leafN_ok (i : Nat) (h : i < 18446744073709551616) : 1 ≤ (leafN i).size ∧ (leafN i).size ≤ 256 := by
  have := leafN_size i h
  refine ⟨?_, by omega⟩
  show 1 ≤ (str leafB ++ str (Lib.decDigits i)).size
  rw [ByteArray.size_append, str_size]
  show 1 ≤ leafB.length + _
  have : leafB.length = 5 := rfl
  omega
theorem pathB_ok (k i m : Nat) (hk : k ≤ 2) (hi : i ≤ 65536) (hm : m ≤ 256) : 1 ≤ (str (pathB k i m)).size ∧ (str (pathB k i m)).size ≤ 256 := by
  rw [str_size]
  have h := pathB_len k i m (by omega) hi (by omega)
  refine ⟨?_, by omega⟩
  unfold pathB
  simp only [List.length_append]
  have : tileB.length = 5 := rfl
  omega
/-- The store behind so many reads. -/
abbrev rdX (T : TxtL) (r : Nat) : StD := ⟨T, [], 0, r, 0, false⟩
theorem body_nsize : hasBody Tryz.prog 88 = true := by kernel_rfl
theorem body_fmt : hasBody Tryz.prog 89 = true := by kernel_rfl
set_option maxRecDepth 20000 in
set_option maxHeartbeats 64000000 in
theorem lies_any25 {B B1 b mb lb : Nat} {se : Nat → Addr} {tv lv : Value} {x : StD} {ls : List (List UInt8)} {o : List UInt8} {w : World} (E : Env B se w) (H : StAt w b mb tv x) (hB : B ≤ b) (V : NvAt B1 w lb lv ls) (ho : nameB o = true) (hol : o.length ≤ 64) (hh : Holds x.texts o ls) :
    Calls Tryz.prog 32 #[.pointer (some ⟨b, 0, none⟩), .pointer (some ⟨lb, 0, none⟩), .string (str o)] w fun e w' => e = .returned (.bool true) ∧ Upd (one b) w w' := by
  have CR := restart_ok H none [] 0 0 (RdsAt.nil _ _) (by decide) (by decide)
  have HE := Lib.hid E
  have HV := Lib.hid V
  have HH := Lib.hid hh
  have HO := Lib.hid (And.intro ho hol)
  have HBT := Lib.hid (show ∃ cs, w.heap[b]? = some (.cells cs 51 (0, 0)) from ⟨_, H.blk⟩)
  have HCN := Lib.hid V.cnt
  rw [show x.take [] 0 = rdX x.texts 0 from rfl] at CR
  generalize x.texts = T at *
  obtain ⟨n, hn⟩ : ∃ n, n = ls.length := ⟨_, rfl⟩
  have HN := Lib.hid hn
  clear E H V ho hol hh hn
  go_enter Tryz.func32, Tryz.ntmps32
  go_wp2_with fail
  refine CR.mono ?_
  rintro e w1 ⟨rfl, tv', hst, -, hu⟩
  have HST := Lib.hid hst
  have HUW1 := Lib.hid hu
  have HLBN : Hid (lb ≠ b ∧ ∀ g, lv.ownBlock = some g → g ≠ b) := Lib.hid ⟨fun e => by
    obtain ⟨cs, h9⟩ := HBT.out
    have h8 := HV.out.blk
    rw [e, h9] at h8
    simp at h8, fun g hg e => by
    obtain ⟨c9, h8⟩ := row_type HV.out.row hg
    obtain ⟨cs, h9⟩ := HBT.out
    rw [e, h9] at h8
    simp at h8⟩
  have HV1 : Hid (NvAt B1 w1 lb lv ls) := Lib.hid (HV.out.upd hu HLBN.out.1 HLBN.out.2)
  have HE1 : Hid (Env B se w1) := Lib.hid (HE.out.upd hu (fun g hg => by rw [show g = b from hg]; exact hB))
  have CS : Hid (∀ w7, NvAt B1 w7 lb lv ls → Calls Tryz.prog 88 #[.pointer (some ⟨lb, 0, none⟩)] w7 fun e w' => e = .returned (.int .u64 n) ∧ w7 = w') := Lib.hid (fun w7 h7 => by rw [HN.out]; exact nsize_any h7)
  have CN := nroot_any HV1.out n (by rw [HN.out]; exact Nat.le_refl _) HE1.out.sgw HE1.out.sh
  have C1 := CS.out w1 HV1.out
  obtain ⟨R, hR⟩ : ∃ R, R = mthP (segH ls 0 n) := ⟨_, rfl⟩
  have HR32 := Lib.hid (show R.length = 32 by rw [hR]; exact mthP_len _ (segH_32 _ _ _))
  have HR := Lib.hid hR
  rw [← hR] at CN
  have HSL := Lib.hid (hash_size32 R HR32.out)
  clear CR hst hu hR
  go_wp2_with fail
  refine C1.mono ?_
  rintro e w2 ⟨rfl, rfl⟩
  clear C1
  go_wp2_with fail
  refine CN.mono ?_
  rintro e w2 ⟨rfl, hx⟩
  have HX2 := Lib.hid hx
  have HQA := Lib.hid (blk_alloc w2 (.cells zero32 30))
  clear CN hx
  go_wp2_with (refine wpList_storeAgg rfl 30 _ _ rfl w2.heap.size 0 rfl (R.map u8v) rfl HSL.out zero32.toList 30 HQA.out (by rw [List.length_map, HR32.out]; exact Nat.le_refl _) (u8_ones R) ?_)
  rw [show over zero32.toList 0 (R.map u8v) = R.map u8v from over_all _ _ (by rw [List.length_map, HR32.out]; rfl)]
  have HQW := Lib.hid (blk_setRow HQA.out (R.map u8v).toArray)
  have HXW : Hid (Ext w1 ((w2.alloc (.cells zero32 30)).setRow w2.heap.size (R.map u8v).toArray)) := Lib.hid ((HX2.out.alloc (.cells zero32 30)).setRow (.inl HX2.out.size) _)
  obtain ⟨kq, hkq⟩ : ∃ g, g = w2.heap.size := ⟨_, rfl⟩
  rw [← hkq] at HQW HXW ⊢
  generalize (w2.alloc (.cells zero32 30)).setRow kq (R.map u8v).toArray = U at *
  have HCA : Hid (∀ t u, (R.map u8v)[t]? = some u → U.cell? ⟨kq, 0 + t, none⟩ = some u) := Lib.hid (blk_cells HQW.out)
  have HNB := Lib.hid (show n ≤ 1048576 by rw [HN.out]; exact HCN.out)
  clear hkq HQA
  go_upto_region 4 with fail
  refine region_gen 11 [] (fun _ w' => Ext U w') (fun _ => Ext) [.inl (.string (str o)), .inl (.pointer (some ⟨lb, 0, none⟩)), .inl (.int .u64 n), .inl (.agg (R.map u8v).toArray), .inl (ckV o n R), .inl (.tuple #[(.string (str (ckptB o n R))), .nilIface]), .inl (.tuple #[(.string (str (ckptB o n R))), .nilIface]), .inl (.string (str (ckptB o n R))), .inl .nilIface, .inl (.string (str (ckptB o n R))), .inl .nilIface] (by kernel_rfl) (fun _ _ => Upd.refl _ _) trivial (by kernel_rfl) (by kernel_rfl) (by rfl) (by rfl) (by rfl) (by rfl) ((Upd.refl none' U).drew) ?_ ?_
  rotate_left
  · intro v' w' hJ hv
    have hs9 := slot_val3 (hv 9 _ 9 rfl rfl) rfl
    have hs10 := slot_val3 (hv 10 _ 10 rfl rfl) rfl
    have hs6 := slot_val3 (hv 6 _ 32 rfl rfl) rfl
    have hs0 := slot_val3 (hv 0 _ 33 rfl rfl) rfl
    have hs1 := slot_val3 (hv 1 _ 34 rfl rfl) rfl
    have hs2 := slot_val3 (hv 2 _ 35 rfl rfl) rfl
    have hs3 := slot_val3 (hv 3 _ 36 rfl rfl) rfl
    have hs4 := slot_val3 (hv 4 _ 37 rfl rfl) rfl
    have hs5 := slot_val3 (hv 5 _ 38 rfl rfl) rfl
    have hs7 := slot_val3 (hv 7 _ 39 rfl rfl) rfl
    have hs8 := slot_val3 (hv 8 _ 40 rfl rfl) rfl
    refine gn_norm (by simp only [List.take, putAll]; rewrite [hs9, hs10, hs6, hs0, hs1, hs2, hs3, hs4, hs5, hs7, hs8]; go_simp; all_goals exact rfl) ?_
    clear hv hs9 hs10 hs6 hs0 hs1 hs2 hs3 hs4 hs5 hs7 hs8
    refine wpAny_done (by kernel_rfl) ?_ _
    have HXJ := Lib.hid (HXW.out.trans (show Ext U w' from hJ))
    clear hJ
    generalize w' = w4 at *
    have HST4 := Lib.hid (HST.out.ext HXJ.out)
    have HUW4 := Lib.hid (HUW1.out.trans (HXJ.out.mono (fun _ _ h => h.elim)))
    have HV4 := Lib.hid (HV1.out.ext HXJ.out)
    have HE4 := Lib.hid (HE1.out.ext HXJ.out)
    obtain ⟨K, hK⟩ : ∃ K, K = ckptB o n R := ⟨_, rfl⟩
    have HK := Lib.hid hK
    rw [← hK]
    clear hK
    have CG := get_any HE4.out.g HST4.out hB (str headB) (by decide) (show (0 : Nat) < 4611686018427387904 by decide) (show ([] : List Int).length < 4611686018427387904 by decide)
    have hgk := get_look (T := T) (r := 0) (s := str headB) (t := str K) (by decide) (by rw [HH.out.ck, ← HN.out, HK.out, HR.out])
    unfold GetPost at CG
    rw [show StD.get (rdX T 0) (str headB) = _ from hgk] at CG
    simp only [evS] at CG
    clear hgk
    go_wp2_with fail
    refine CG.mono ?_
    rintro e w5 ⟨rfl, hst, hu⟩
    have HST5 := Lib.hid hst
    have HUW5 := Lib.hid (HUW4.out.trans hu)
    have HV5 := Lib.hid (HV4.out.upd hu HLBN.out.1 HLBN.out.2)
    have HE5 : Hid (Env B se w5) := Lib.hid (HE4.out.upd hu (fun g hg => by rw [show g = b from hg]; exact hB))
    clear CG hst hu
    go_wp2_with fail
    go_loopw [13, 14, 15, 16, 17] (fun iv _ _ _ _ wr => ∃ i : Nat, i ≤ n ∧ iv = .int .u64 i ∧ StAt wr b mb tv' (rdX T (1 + i)) ∧ NvAt B1 wr lb lv ls ∧ Env B se wr ∧ Upd (one b) w wr) (fun iv _ _ _ _ _ => n - (RowKit.intOf iv).toNat)
    case atStart => exact ⟨0, Nat.zero_le _, rfl, HST5.out, HV5.out, HE5.out, HUW5.out⟩
    case round =>
      obtain ⟨i, hi, rfl, hst, hv, he, hw⟩ := hrel
      have HUWI := Lib.hid hw
      clear hw
      have HSI := Lib.hid hst
      have HVI := Lib.hid hv
      have HEI := Lib.hid he
      have C1 := CS.out wr hv
      clear hst hv he
      by_cases hlt : i < n
      · have hlti : (i : Int) < n := by omega
        have hib : i < 1048576 := by have := HNB.out; omega
        have hil : i < ls.length := by rw [← HN.out]; exact hlt
        have CL := nleaf_any HVI.out i hil
        have HLK := Lib.hid (HH.out.lf i (ls[i]'hil) (List.getElem?_eq_getElem hil))
        generalize ls[i]'hil = s at CL HLK
        have CF := leaf_any i (by omega) wr HEI.out.t10
        have HGT : Hid (∀ w7, Ext wr w7 → Calls Tryz.prog 73 #[.pointer (some ⟨b, 0, none⟩), .string (leafN i)] w7 fun e w' => e = .returned (.tuple #[.string (str s), .nilIface]) ∧ StAt w' b mb tv' (rdX T (1 + (i + 1))) ∧ Upd (one b) w7 w') := Lib.hid (fun w7 h7 => by
          have h9 := get_any (HEI.out.ext h7).g (HSI.out.ext h7) hB (leafN i) (Nat.le_trans (leafN_ok i (by omega)).2 (by decide)) (by show 1 + i < _; omega) (show ([] : List Int).length < 4611686018427387904 by decide)
          unfold GetPost at h9
          rw [show StD.get (rdX T (1 + i)) (leafN i) = _ from get_look (leafN_ok i (by omega)) HLK.out] at h9
          exact h9)
        rw [show str leafB ++ str (Lib.decDigits i) = leafN i from rfl] at CF
        have HLT := Lib.hid hlt
        have hwi : IntKind.u64.wrap ((i : Int) + 1) = ((i + 1 : Nat) : Int) := by rw [IntKind.wrap_u64]; omega
        generalize leafN i = nm at *
        clear hil hlt hi
        go_wp2_with fail
        refine C1.mono ?_
        rintro e w6 ⟨rfl, rfl⟩
        clear C1
        go_wp2_with fail
        refine CL.mono ?_
        rintro e w6 ⟨rfl, rfl⟩
        clear CL
        go_wp2_with fail
        refine CF.mono ?_
        rintro e w6 ⟨rfl, hx⟩
        have HX6 := Lib.hid hx
        have CG := HGT.out w6 hx
        clear CF hx
        go_wp2_with fail
        refine CG.mono ?_
        rintro e w7 ⟨rfl, hst, hu⟩
        have HST7 := Lib.hid hst
        have HUW7 := Lib.hid ((HUWI.out.trans (HX6.out.mono (fun _ _ h => h.elim))).trans hu)
        have HV7 := Lib.hid ((HVI.out.ext HX6.out).upd hu HLBN.out.1 HLBN.out.2)
        have HE7 : Hid (Env B se w7) := Lib.hid ((HEI.out.ext HX6.out).upd hu (fun g hg => by rw [show g = b from hg]; exact hB))
        clear CG hst hu
        go_wp2_with fail
        have hlt := HLT.out
        go_roundw
        case rel => exact ⟨i + 1, by omega, by first | rfl | (simp <;> omega), HST7.out, HV7.out, HE7.out, HUW7.out⟩
        case measure => simp [RowKit.intOf] <;> omega
      · have hlti : ¬ (i : Int) < n := by omega
        have hin : i = n := by omega
        subst hin
        have CA := tall_any wr i HNB.out
        clear hlt hi
        go_wp2_with fail
        refine C1.mono ?_
        rintro e w6 ⟨rfl, rfl⟩
        clear C1
        have C1 := CS.out wr HVI.out
        go_wp2_with fail
        refine C1.mono ?_
        rintro e w6 ⟨rfl, rfl⟩
        clear C1
        go_wp2_with fail
        refine CA.mono ?_
        rintro e w6 ⟨v, rfl, hown, hx⟩
        have HOW := Lib.hid hown
        obtain ⟨tA, tc, rfl⟩ := own_sl hown
        have HS6 := Lib.hid (HSI.out.ext hx)
        have HUW6 := Lib.hid (HUWI.out.trans (hx.mono (fun _ _ h => h.elim)))
        have HV6 := Lib.hid (HVI.out.ext hx)
        have HE6 := Lib.hid (HEI.out.ext hx)
        have HTL := Lib.hid (allT_le HNB.out 3)
        obtain ⟨tn, htn⟩ : ∃ tn, tn = (allT i 3).length := ⟨_, rfl⟩
        have HTN := Lib.hid htn
        rw [← htn] at HOW ⊢
        clear CA hown hx htn
        go_wp2_with fail
        go_loopw [20] (fun jv wr => ∃ j : Nat, j ≤ tn ∧ jv = .int .i64 j ∧ StAt wr b mb tv' (rdX T (1 + i + j)) ∧ NvAt B1 wr lb lv ls ∧ Env B se wr ∧ Upd (one b) w6 wr) (fun jv _ => tn - (RowKit.intOf jv).toNat)
        case atStart => exact ⟨0, Nat.zero_le _, rfl, HS6.out, HV6.out, HE6.out, Upd.refl _ _⟩
        case round =>
          obtain ⟨j, hj, rfl, hst, hv, he, hu⟩ := hrel
          have HSJ := Lib.hid hst
          have HVJ := Lib.hid hv
          have HEJ := Lib.hid he
          have HUJ := Lib.hid hu
          clear hst hv he hu
          by_cases hlt : j < tn
          · have hlti : (j : Int) < tn := by omega
            have hjb : j < 1048576 := by have := HTL.out; have := HTN.out; omega
            obtain ⟨t, ht⟩ : ∃ t, (allT i 3)[j]? = some t := ⟨_, List.getElem?_eq_getElem (by rw [← HTN.out]; exact hlt)⟩
            have hmem := List.mem_of_getElem? ht
            rw [HN.out] at hmem
            obtain ⟨f1, f2, f3, f4, f5⟩ := tile_facts HCN.out hmem
            have hlk := HH.out.tl t hmem
            obtain ⟨tg, rfl⟩ : ∃ tg, tA = some ⟨tg, 0, none⟩ := by
              rcases own_form HOW.out with ⟨_, h0⟩ | ⟨g, c, h9, _⟩
              · omega
              · simp only [Value.slice.injEq, true_and] at h9; exact ⟨g, h9.1⟩
            have hgb : tg ≠ b := fun e => by
              obtain ⟨c9, h8⟩ := row_type HOW.out (g := tg) rfl
              rw [e, HS6.out.blk] at h8
              simp at h8
            have hcell : ∀ c u, (tlC t)[c]? = some u → wr.cell? ⟨tg, j * 3 + c, none⟩ = some u := fun c u hu => by
              have h9 := HOW.out.cells (g := tg) rfl (j * 3 + c) u (tilesCs_get ht c u hu)
              rw [Addr.add_lit, Nat.zero_add] at h9
              exact (Upd.cell HUJ.out (lt_of_cell h9) hgb).trans h9
            have CT := stands_any25 HEJ.out HSJ.out hB HVJ.out (tileH ls t) (tileH_32 ls t) (by rw [tileH_len]; exact f3) (by rw [tileH_len]; exact f4) f1 f2 (by show 1 + i + j < _; have := HNB.out; omega) (show ([] : List Int).length < 4611686018427387904 by decide) (by rw [tileH_len]; exact get_look (pathB_ok _ _ _ f1 f2 f4) hlk) (by rw [tileH_len]; have := pathB_len t.1 t.2.1 t.2.2 (by omega) f2 (by omega); omega) f5
            rw [tileH_len] at CT
            obtain ⟨tk, ti, tm⟩ := t
            have p0 := hcell 0 _ rfl
            have p1 := hcell 1 _ rfl
            have p2 := hcell 2 _ rfl
            simp only [Nat.add_zero] at p0 p1 p2 CT
            have HLT := Lib.hid hlt
            clear hcell hlk hmem ht f1 f2 f3 f4 f5 hlt hj hgb
            go_wp2_with fail
            refine CT.mono ?_
            rintro e w8 ⟨rfl, hst, hu⟩
            have HST8 := Lib.hid hst
            have HV8 := Lib.hid (HVJ.out.upd hu HLBN.out.1 HLBN.out.2)
            have HE8 : Hid (Env B se w8) := Lib.hid (HEJ.out.upd hu (fun g hg => by rw [show g = b from hg]; exact hB))
            have HU8 := Lib.hid (HUJ.out.trans hu)
            clear CT hst hu p0 p1 p2
            go_wp2_with fail
            have hlt := HLT.out
            go_roundw
            case rel => exact ⟨j + 1, by omega, by first | rfl | (simp <;> omega), HST8.out, HV8.out, HE8.out, HU8.out⟩
            case measure => simp [RowKit.intOf] <;> omega
          · have hlti : ¬ (j : Int) < tn := by omega
            go_wp2_with fail
            go_ret
            exact ⟨rfl, HUW6.out.trans HUJ.out⟩
  refine ⟨g_move (fun _ _ => Upd.refl _ _) rfl (gd_none3 rfl) rfl rfl (kn_old3 2 rfl rfl), ?_⟩
  refine ⟨g_move (fun _ _ => Upd.refl _ _) rfl (gd_none3 rfl) rfl rfl (kn_old3 1 rfl rfl), ?_⟩
  refine ⟨g_call 88 [.tmp 34] _ [(.pointer (some ⟨lb, 0, none⟩))] (gd_none3 rfl) rfl body_nsize ⟨(kn_new3 1 rfl rfl rfl rfl), trivial⟩ (fun p w7 _ _ hj => by
    refine (CS.out w7 (HV1.out.ext (HXW.out.trans hj))).mono ?_
    rintro e9 w8 ⟨rfl, rfl⟩
    exact ⟨_, rfl, Upd.refl _ _, rfl, hj⟩), ?_⟩
  refine ⟨g_loadAgg 30 kq 0 _ (fun _ _ => Upd.refl _ _) rfl (gd_none3 rfl) rfl rfl (kn_old3 7 rfl rfl) Tryz.underlying30 rfl HSL.out (fun p w7 _ _ hj t u hu => Ext.cellv hj (HCA.out t u hu)), ?_⟩
  refine ⟨g_read (fun _ _ => Upd.refl _ _) rfl (gd_none3 rfl) rfl (fun p a w7 _ _ _ hH hN => exec_build w7 [(0, .tmp 33), (1, .tmp 35), (2, .tmp 36)] rfl [(0, .string (str o)), (1, .int .u64 n), (2, hashV R)] _ (by simp only [List.map_cons, List.map_nil, (kn_new3 0 rfl rfl rfl rfl) a w7 hH hN, (kn_new3 2 rfl rfl rfl rfl) a w7 hH hN, (kn_new3 3 rfl rfl rfl rfl) a w7 hH hN]) (run_ckN w7 o n R HR32.out)), ?_⟩
  refine ⟨g_call 89 [.tmp 37] _ [(ckV o n R)] (gd_none3 rfl) rfl body_fmt ⟨(kn_new3 4 rfl rfl rfl rfl), trivial⟩ (fun p w7 _ _ hj => by
    have h7 := HE1.out.ext (HXW.out.trans hj)
    refine (format_any w7 o n R HR32.out HO.out.1 HO.out.2 HNB.out h7.bt h7.ut h7.t10).mono ?_
    rintro e9 w8 ⟨rfl, hu9⟩
    exact ⟨_, rfl, hu9, rfl, Upd.trans hj hu9⟩), ?_⟩
  refine ⟨g_move (fun _ _ => Upd.refl _ _) rfl (gd_none3 rfl) rfl rfl (kn_new3 5 rfl rfl rfl rfl), ?_⟩
  refine ⟨g_un (x := (.tmp 32)) (fun _ _ => Upd.refl _ _) rfl (gd_none3 rfl) rfl (kn_new3 6 rfl rfl rfl rfl) (fun ev w h => by simp only [execOp, h]; go_simp), ?_⟩
  refine ⟨g_un (x := (.tmp 32)) (fun _ _ => Upd.refl _ _) rfl (gd_none3 rfl) rfl (kn_new3 6 rfl rfl rfl rfl) (fun ev w h => by simp only [execOp, h]; go_simp), ?_⟩
  refine ⟨g_assign (fun _ _ => Upd.refl _ _) rfl (gd_none3 rfl) rfl rfl (kn_new3 7 rfl rfl rfl rfl), ?_⟩
  refine ⟨g_assign (fun _ _ => Upd.refl _ _) rfl (gd_none3 rfl) rfl rfl (kn_new3 8 rfl rfl rfl rfl), ?_⟩
  exact trivial
end Go.Proofs.YtnkcfkjeeennmaaGreatDoor
