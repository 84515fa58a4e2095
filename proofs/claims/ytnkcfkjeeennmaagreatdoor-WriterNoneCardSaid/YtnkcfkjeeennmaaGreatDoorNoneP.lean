/- writer.Create, Resume of a store that is not there, by contracts; the statements' fresh. The writer's statements' alive by contract. TextsSize, Beyond of one length: whatever they answer. The walk of WriterNone. -/
import Derived.Test.YtnkcfkjeeennmaaGreatDoorSameCk
import Derived.Test.YtnkcfkjeeennmaaGreatDoorTxt
import Derived.Test.YtnkcfkjeeennmaaGreatDoorApE
import Derived.Test.YtnkcfkjeeennmaaGreatDoorAp
namespace Go.Proofs.YtnkcfkjeeennmaaGreatDoor
open Go.RowKit Go.Lib Go.Sort


set_option maxRecDepth 20000 in
set_option maxHeartbeats 8000000 in
theorem create_none {B : Nat} {se : Nat → Addr} {w : World} (E : Env B se w) (o : List UInt8) : Calls Tryz.prog 15 #[.pointer none, .string (str o)] w fun e w' => e = .returned (.tuple #[.pointer none, sv se 1]) ∧ Ext w w' := by
  have CT := there_none E.g
  have HE := Lib.hid E
  clear E
  go_enter Tryz.func15, Tryz.ntmps15
  go_wp2_with fail
  refine CT.mono ?_
  rintro e w1 ⟨rfl, hx1⟩
  have HX1 := Lib.hid (hx1)
  have g2 : w1.cell? ⟨0, 0, none⟩ = some (sv se 1) := (HE.out.ext HX1.out).g.cell 1 (by omega) (by omega)
  clear hx1 CT
  go_wp2_with fail
  go_quiet (fail)
  go_wp2_with fail
  go_ret2
  exact ⟨rfl, HX1.out.drewN _⟩
set_option maxRecDepth 20000 in
set_option maxHeartbeats 8000000 in
theorem create_zero {B b : Nat} {se : Nat → Addr} {w : World} (E : Env B se w) (Z : ZeroAt w b) (o : List UInt8) : Calls Tryz.prog 15 #[.pointer (some ⟨b, 0, none⟩), .string (str o)] w fun e w' => e = .returned (.tuple #[.pointer none, sv se 1]) ∧ Ext w w' := by
  have CT := there_zero E.g Z
  have HE := Lib.hid E
  clear E Z
  go_enter Tryz.func15, Tryz.ntmps15
  go_wp2_with fail
  refine CT.mono ?_
  rintro e w1 ⟨rfl, hx1⟩
  have HX1 := Lib.hid (hx1)
  have g2 : w1.cell? ⟨0, 0, none⟩ = some (sv se 1) := (HE.out.ext HX1.out).g.cell 1 (by omega) (by omega)
  clear hx1 CT
  go_wp2_with fail
  go_quiet (fail)
  go_wp2_with fail
  go_ret2
  exact ⟨rfl, HX1.out.drewN _⟩
set_option maxRecDepth 20000 in
set_option maxHeartbeats 8000000 in
theorem resume_none {B : Nat} {se : Nat → Addr} {w : World} (E : Env B se w) (o : List UInt8) (n : Nat) (root : HB) (ev : Value) : Calls Tryz.prog 16 #[.pointer none, ckV o n root, ev] w fun e w' => e = .returned (.tuple #[.pointer none, sv se 1]) ∧ Ext w w' := by
  have X0 := (Upd.refl none' w).alloc (.cells (ckC o n root).toArray 32)
  have CT := there_none (E.ext X0).g
  have HE := Lib.hid E
  have HX := Lib.hid X0
  clear E X0
  go_enter Tryz.func16, Tryz.ntmps16
  go_wp2_with fail
  refine CT.mono ?_
  rintro e w1 ⟨rfl, hx1⟩
  have HX1 := Lib.hid (HX.out.trans hx1)
  have g2 : w1.cell? ⟨0, 0, none⟩ = some (sv se 1) := (HE.out.ext HX1.out).g.cell 1 (by omega) (by omega)
  clear hx1 CT
  go_wp2_with fail
  go_quiet (fail)
  go_wp2_with fail
  go_ret2
  exact ⟨rfl, HX1.out.drewN _⟩
set_option maxRecDepth 20000 in
set_option maxHeartbeats 8000000 in
theorem resume_zero {B b : Nat} {se : Nat → Addr} {w : World} (E : Env B se w) (Z : ZeroAt w b) (o : List UInt8) (n : Nat) (root : HB) (ev : Value) : Calls Tryz.prog 16 #[.pointer (some ⟨b, 0, none⟩), ckV o n root, ev] w fun e w' => e = .returned (.tuple #[.pointer none, sv se 1]) ∧ Ext w w' := by
  have X0 := (Upd.refl none' w).alloc (.cells (ckC o n root).toArray 32)
  have CT := there_zero (E.ext X0).g (Z.ext X0)
  have HE := Lib.hid E
  have HX := Lib.hid X0
  clear E X0 Z
  go_enter Tryz.func16, Tryz.ntmps16
  go_wp2_with fail
  refine CT.mono ?_
  rintro e w1 ⟨rfl, hx1⟩
  have HX1 := Lib.hid (HX.out.trans hx1)
  have g2 : w1.cell? ⟨0, 0, none⟩ = some (sv se 1) := (HE.out.ext HX1.out).g.cell 1 (by omega) (by omega)
  clear hx1 CT
  go_wp2_with fail
  go_quiet (fail)
  go_wp2_with fail
  go_ret2
  exact ⟨rfl, HX1.out.drewN _⟩
set_option maxRecDepth 20000 in
set_option maxHeartbeats 4000000 in
theorem fresh25_any (w : World) (c : Int) : Calls Tryz.prog 27 #[.int .i64 c] w fun e w' => ∃ b mb tv, e = .returned (.pointer (some ⟨b, 0, none⟩)) ∧ StAt w' b mb tv ⟨[], [], c, 0, 0, false⟩ ∧ w.heap.size ≤ b ∧ w.heap.size ≤ mb ∧ Ext w w' := by
  have C := new_ok w none [] 0 c (fun i s hs => by simp at hs) (by simp) (by decide)
  go_enter Tryz.func27, Tryz.ntmps27
  go_wp2_with fail
  refine C.mono ?_
  rintro e w1 ⟨b, mb, tv, rfl, h, hb, hm, hx⟩
  have HH := Lib.hid (⟨h, hb, hm, hx⟩ : StAt w1 b mb tv ⟨[], [], c, 0, 0, false⟩ ∧ w.heap.size ≤ b ∧ w.heap.size ≤ mb ∧ Ext w w1)
  clear h hb hm hx C
  go_wp2_with fail
  go_ret
  exact ⟨_, _, _, rfl, HH.out⟩

theorem ck_field : ∃ f : Field, (match Tryz.prog.underlying 32 with | some (.struct fs) => fs[2]? | _ => none) = some f ∧ f.type = 30 ∧ f.offset = 2 := by
  have h : ((match Tryz.prog.underlying 32 with | some (.struct fs) => fs[2]? | _ => none).map fun (f : Field) => (f.type, f.offset)) = some (30, 2) := by kernel_rfl
  cases hq : (match Tryz.prog.underlying 32 with | some (.struct fs) => fs[2]? | _ => none) with
  | none => rw [hq] at h; cases h
  | some f =>
    rw [hq] at h
    simp only [Option.map_some, Option.some.injEq, Prod.mk.injEq] at h
    exact ⟨f, rfl, h.1, h.2⟩
theorem run_partH (w : World) (cs : Array Value) (off : Nat) : (part 30 cs off).run Tryz.prog w = .ok (.agg (cs.extract off (off + 32))) w := by
  obtain ⟨i0, hi0, hz0, hz1, hz2⟩ := info_parts info_hash
  simp [part, isAgg, run_underlying Tryz.underlying30, sizeOf, typeInfo, hi0, hz1]
theorem field_ck (w : World) (o : List UInt8) (n : Nat) (root : HB) (hr : root.length = 32) : (Instr.field 32 (ckV o n root) 2).run Tryz.prog w = .ok (hashV root) w := by
  have hx : (ckC o n root).toArray.extract 2 34 = (root.map u8v).toArray := by
    rw [List.extract_toArray]
    congr 1
    show ((Value.string (str o) :: .int .u64 n :: (root.map u8v ++ [.slice none 0 0])).drop 2).take 32 = _
    simp only [List.drop_succ_cons, List.drop_zero]
    rw [List.take_append_of_le_length (by simp [hr]), List.take_of_length_le (by simp [hr])]
  obtain ⟨f, hf, h1, h2⟩ := ck_field
  cases hu : Tryz.prog.underlying 32 with
  | none => rw [hu] at hf; cases hf
  | some d =>
    rw [hu] at hf
    cases d with
    | struct fs =>
      have hf : fs[2]? = some f := hf
      simp only [Instr.field, Sem.run_bind, run_underlying hu, Result.andThen_ok, hf, asAgg, Sem.run_pure, h1, h2, run_partH, hx]
    | _ => cases hf
theorem run_fieldCk {op : Oper} {a : Act} (w : World) {x : Operand} (ho : op.op = .field 32 x 2) (o : List UInt8) (n : Nat) (root : HB) (hr : root.length = 32) (hx : a.eval x = ckV o n root) : (execOp a.eval op).run Tryz.prog w = .ok (.value (hashV root)) w := by
  simp only [execOp, ho, hx, Sem.run_bind, field_ck w o n root hr, Result.andThen_ok]
  rfl
theorem run_neqH0 {op : Oper} {a : Act} (w : World) {x y : Operand} {tr : TypeId} (ho : op.op = .binOp .neq 30 x y tr) (p : List UInt8) (hx : a.eval x = hashV p) (hy : a.eval y = hashV p) (hp : p.length = 32) : (execOp a.eval op).run Tryz.prog w = .ok (.value (.bool false)) w := by
  have h := run_neqH w ho p p hx hy hp hp
  rw [decide_eq_true rfl] at h
  exact h
theorem run_neqH1 {op : Oper} {a : Act} (w : World) {x y : Operand} {tr : TypeId} (ho : op.op = .binOp .neq 30 x y tr) (p q : List UInt8) (hx : a.eval x = hashV p) (hy : a.eval y = hashV q) (hp : p.length = 32) (hq : q.length = 32) (hn : p ≠ q) : (execOp a.eval op).run Tryz.prog w = .ok (.value (.bool true)) w := by
  have h := run_neqH w ho p q hx hy hp hq
  rw [decide_eq_false hn] at h
  exact h
theorem run_eqlH0 {op : Oper} {a : Act} (w : World) {x y : Operand} {tr : TypeId} (ho : op.op = .binOp .eql 30 x y tr) (p : List UInt8) (hx : a.eval x = hashV p) (hy : a.eval y = hashV p) (hp : p.length = 32) : (execOp a.eval op).run Tryz.prog w = .ok (.value (.bool true)) w := by
  have h := run_eqlH w ho p p hx hy hp hp
  rw [decide_eq_true rfl] at h
  exact h
theorem EgAt.nil {B : Nat} {w : World} : EgAt B w (.slice none 0 0) [] [] := ⟨World.ownsRow_nil _ _ _ _, fun k => by
  rw [show ([] : List Value).getD k nilS = nilS by simp, show ([] : List (List HB)).getD k [] = [] by simp]
  exact World.ownsRow_nil _ _ _ _⟩
def L4 : List ByteArray := [str headB, str nL0, str nL1, str nT0]
def PN (v : Value) (w : World) : Prop := ∃ g c, v = .slice (some ⟨g, 0, none⟩) 4 c ∧ TextsAt w (some ⟨g, 0, none⟩) L4
theorem pn_lasts : Lasts PN := fun v w w' ⟨g, c, h1, h2⟩ u => ⟨g, c, h1, h2.later u⟩
theorem run_build4 {P : Program} (w : World) (t e : TypeId) (ie : TypeInfo) (hu : P.underlying t = some (.slice e)) (hq : P.info? e = some ie) (hz : ie.zero = some (.string ⟨#[]⟩)) (hs : ie.size = 1) (a b c d : ByteArray) :
    (Instr.buildSlice t 4 #[(0, .string a), (1, .string b), (2, .string c), (3, .string d)]).run P w = .ok (.slice (some ⟨w.heap.size, 0, none⟩) 4 4) (w.alloc (.cells #[.string a, .string b, .string c, .string d] e)) := by
  cases ie
  simp only at hs hz
  subst hs
  refine run_buildSlice (P := P) w t e 4 _ #[.string a, .string b, .string c, .string d] _ (.string ⟨#[]⟩) hu hq hz (by simp) (by simp) ?_
  simp [Instr.fill, Value.cells, Builtin.zeroCells, Array.range]
  rfl
theorem texts_new4 (w : World) : TextsAt (w.alloc (.cells #[.string (str headB), .string (str nL0), .string (str nL1), .string (str nT0)] 9)) (some ⟨w.heap.size, 0, none⟩) L4 := fun i s hs => by
  have h := cell_of_blk (blk_alloc w (.cells #[.string (str headB), .string (str nL0), .string (str nL1), .string (str nT0)] 9)) i
  have hsz : s.size ≤ 9223372036854775807 := by
    have hm := List.mem_of_getElem? hs
    simp only [L4, List.mem_cons, List.not_mem_nil, or_false] at hm
    rcases hm with rfl | rfl | rfl | rfl <;> decide
  refine ⟨hsz, _, 0, rfl, ?_⟩
  rw [Nat.zero_add, h]
  rcases i with _ | _ | _ | _ | i
  · obtain rfl := Option.some.inj hs; rfl
  · obtain rfl := Option.some.inj hs; rfl
  · obtain rfl := Option.some.inj hs; rfl
  · obtain rfl := Option.some.inj hs; rfl
  · simp [L4] at hs
theorem body_leafH : hasBody Tryz.prog 37 = true := by kernel_rfl
theorem body_nodeH : hasBody Tryz.prog 36 = true := by kernel_rfl
theorem body_names : hasBody Tryz.prog 39 = true := by kernel_rfl
theorem body_sameT : hasBody Tryz.prog 38 = true := by kernel_rfl
set_option maxRecDepth 20000 in
theorem run_hash0 (w : World) : (Instr.build 30 #[]).run Tryz.prog w = .ok (hashV z32B) w := by
  go_simp
  rfl
theorem ck_rootC {w : World} {g : Nat} {o : List UInt8} {n : Nat} {root : HB} (hq : w.heap[g]? = some (.cells (ckC o n root).toArray 32 (0, 0))) : ∀ i v, (root.map u8v)[i]? = some v → w.cell? ⟨g, 2 + i, none⟩ = some v := fun i v hv => by
  rw [cell_of_blk hq, List.getElem?_toArray]
  show (Value.string (str o) :: .int .u64 n :: (root.map u8v ++ [.slice none 0 0]))[2 + i]? = some v
  rw [show 2 + i = i + 2 by omega, List.getElem?_cons_succ, List.getElem?_cons_succ, List.getElem?_append_left (List.getElem?_eq_some_iff.1 hv).1]
  exact hv
/-- Two leaves in a new row. -/
theorem ab_cells (w : World) : CellsAt (w.alloc (.cells #[.string ⟨#[97]⟩, .string ⟨#[98]⟩] 9)) (some ⟨w.heap.size, 0, none⟩) (strC lsAB) := fun j v hv => by
  refine ⟨_, rfl, ?_⟩
  have h := cell_of_blk (blk_alloc w (.cells #[.string ⟨#[97]⟩, .string ⟨#[98]⟩] 9)) j
  rw [Addr.add_lit, Nat.zero_add, h]
  rcases j with _ | _ | j
  · exact hv
  · exact hv
  · simp [strC, lsAB] at hv
set_option maxRecDepth 20000 in
set_option maxHeartbeats 16000000 in
theorem alive25_any {B : Nat} {se : Nat → Addr} {w : World} (E : Env B se w) : Calls Tryz.prog 8 #[] w fun e w' => e = .returned (.bool true) ∧ Ext w w' := by
  have CF := fresh25_any w 0
  have HE := Lib.hid E
  have HB := Lib.hid E.g.size
  clear E
  go_enter Tryz.func8, Tryz.ntmps8
  go_wp2_with fail
  refine CF.mono ?_
  rintro e w1 ⟨b, mb, tv, rfl, hst, hb, hm, hx1⟩
  have HX1 := Lib.hid hx1
  have HBM := Lib.hid (⟨hb, hm⟩ : w.heap.size ≤ b ∧ w.heap.size ≤ mb)
  have CC := create_ok (HE.out.ext hx1) hst (show B ≤ b by have := HB.out; omega) (show B ≤ mb by have := HB.out; omega) oL name_log (by decide) (by decide) (has_none _ _ _ _ _) (by decide) emptyH rfl
  rw [put_head] at CC
  change Calls _ _ #[_, .string ⟨#[108, 111, 103]⟩] _ _ at CC
  clear hst hb hm hx1 CF
  go_wp2_with fail
  refine CC.mono ?_
  rintro e w2 ⟨hs2, hu2, hres⟩
  obtain ⟨wb, rfl, hw2, hwb⟩ : ∃ wb, e = .returned (.tuple #[.pointer (some ⟨wb, 0, none⟩), .nilIface]) ∧ WrAt w2 wb (.pointer (some ⟨b, 0, none⟩)) oL 0 emptyH (.slice none 0 0) false ∧ w1.heap.size ≤ wb := hres
  have HS2 := Lib.hid hs2
  have HW2 := Lib.hid hw2
  have HX2 : Hid (Ext w w2) := Lib.hid (HX1.out.then hu2 (fun k hk e => by have := HBM.out; rcases e with e | e <;> omega))
  have HWB := Lib.hid (show w.heap.size ≤ wb by have := HX1.out.size; omega)
  have CB := create_bad (HE.out.ext HX2.out) hs2 oL (by decide) (by decide) (.inr (has_head _ _ _ _ _ _))
  change Calls _ _ #[_, .string ⟨#[108, 111, 103]⟩] _ _ at CB
  clear hs2 hw2 hwb hu2 CC
  go_wp2_with fail
  refine CB.mono ?_
  rintro e w3 ⟨rfl, hx3⟩
  have HX3 := Lib.hid (HX2.out.trans hx3)
  have HS3 := Lib.hid (HS2.out.ext hx3)
  have HW3 := Lib.hid (HW2.out.ext hx3)
  clear hx3 CB
  have CI := is0_any (HE.out.ext HX3.out).g (v := sv se 2) (x := some (2, none)) ⟨by decide, by decide, rfl⟩ 2
  rw [show (codeOf (some (2, none)) == 2 && (!placed (some (2, none)) || placeOf (some (2, none)) == 0)) = true from rfl] at CI
  go_wp2_with fail
  refine CI.mono ?_
  rintro e w4 ⟨rfl, hx4⟩
  have HX4 := Lib.hid (HX3.out.trans hx4)
  have HS4 := Lib.hid (HS3.out.ext hx4)
  have HW4 := Lib.hid (HW3.out.ext hx4)
  have CK := ckp_any HW4.out emptyH_len
  clear hx4 CI
  go_wp2_with fail
  refine CK.mono ?_
  rintro e w5 ⟨rfl, hx5⟩
  have HX5 := Lib.hid (HX4.out.trans hx5)
  have HS5 := Lib.hid (HS4.out.ext hx5)
  have HW5 := Lib.hid (HW4.out.ext hx5)
  have CE := empty_h w5 (HE.out.ext HX5.out).sgw (HE.out.ext HX5.out).sh
  clear hx5 CK
  go_wp2_with (refine wpList_runG rfl (run_fieldCk _ rfl oL 0 emptyH emptyH_len rfl) ?_)
  refine CE.mono ?_
  rintro e w6 ⟨rfl, hx6⟩
  have HX6 := Lib.hid (HX5.out.trans hx6)
  have HS6 := Lib.hid (HS5.out.ext hx6)
  have HW6 := Lib.hid (HW5.out.ext hx6)
  clear hx6 CE
  go_wp2_with (refine wpList_runG rfl (run_neqH0 _ rfl emptyH rfl rfl emptyH_len) ?_)
  have X7 := (Upd.refl none' w6).alloc (.cells #[.string ⟨#[97]⟩, .string ⟨#[98]⟩] 9)
  have HX7 := Lib.hid (HX6.out.trans X7)
  have HLT := Lib.hid (⟨lt_of_blk HW6.out.blk, lt_of_blk HS6.out.blk, (by obtain ⟨es, c, hb⟩ := HS6.out.tex.blk; exact lt_of_blk hb)⟩ : wb < w6.heap.size ∧ b < w6.heap.size ∧ mb < w6.heap.size)
  have CA := append_any (HE.out.ext HX7.out) (HW6.out.ext X7) emptyH_len (HS6.out.ext X7) (show B ≤ b by have := HB.out; have := HBM.out; omega) (show B ≤ mb by have := HB.out; have := HBM.out; omega) (show B ≤ wb by have := HB.out; have := HWB.out; omega) (es := []) (vs := []) EgAt.nil rfl (fun e he => by cases he) (some ⟨w6.heap.size, 0, none⟩) lsAB 2 (ab_cells w6) (.inr ⟨_, _, rfl⟩) (fun ad had => by
    obtain rfl := Option.some.inj had
    have h := HLT.out
    refine ⟨?_, ?_, ?_⟩ <;> (show w6.heap.size ≠ _; omega)) (by decide) (by decide) (by decide) long_ab name_log (by decide) (by decide) (by decide)
  obtain ⟨tc, ta, tb, tt, hR⟩ := appR_ab (str (ckptB oL 0 emptyH))
  unfold ApPost at CA
  rw [hR, root_ab] at CA
  have HRZ := Lib.hid node_nz
  have HRL := Lib.hid (nodeH_len (leafH [97]) (leafH [98]))
  obtain ⟨R, hRR⟩ : ∃ R, R = nodeH (leafH [97]) (leafH [98]) := ⟨_, rfl⟩
  have HRR := Lib.hid hRR
  rw [← hRR] at CA HRZ HRL
  have HSR := Lib.hid (ck_size oL 2 R HRL.out)
  change Calls _ _ #[_, .slice _ 2 _] _ _ at CA
  clear X7 hR hRR
  refine CA.mono ?_
  rintro e w8 ⟨hs8, hu8, hres⟩
  obtain ⟨ev8, vs8, rfl, _, _⟩ := hres
  have HS8 := Lib.hid hs8
  have HX8 : Hid (Ext w w8) := Lib.hid (HX7.out.then hu8 (fun k hk e => by have h1 := HBM.out; have h2 := HWB.out; rcases e with e | e | e <;> omega))
  clear hs8 hu8 CA
  go_wp2_with (refine store_new rfl 32 _ _ rfl _ _ rfl (ckC oL 2 R) rfl HSR.out (by rw [ck_len _ _ _ HRL.out]; rfl) (ck_one _ _ _) ?_)
  have HQ9 := Lib.hid (blk_alloc w8 (.cells (ckC oL 2 R).toArray 32))
  have X9 := (Upd.refl none' w8).alloc (.cells (ckC oL 2 R).toArray 32)
  have HX9 := Lib.hid (HX8.out.trans X9)
  have HS9 := Lib.hid (HS8.out.ext X9)
  have HSZ := Lib.hid (hash_size32 R HRL.out)
  clear X9
  generalize w8.alloc (.cells (ckC oL 2 R).toArray 32) = W9 at *
  refine region_slots3 [.inl .nilIface, .inl (.bool true), .inl (.bool true), .inl (.pointer (some ⟨w8.heap.size, 1, none⟩)), .inl (.int .u64 2), .inl (.bool true), .inl (.bool true), .inl (.bool true), .inl (.pointer (some ⟨w8.heap.size, 2, none⟩)), .inl (hashV R), .inl (hashV (leafH [97])), .inl (hashV (leafH [98])), .inl (hashV R), .inl (.bool true), .inl (.bool true), .inl (.bool true), .inl (.pointer (some ⟨w8.heap.size, 2, none⟩)), .inl (hashV R), .inl (hashV z32B), .inl (.bool true), .inl (.bool true), .inl (.bool true), .inl (.pointer (some ⟨b, 0, none⟩)), .inr PN, .inr PN, .inl (.bool true), .inl (.bool true), .inl (.bool true)] (by kernel_rfl) ?_ (by rfl) (by rfl) ?_ ?_
  · intro p hp
    simp only [List.mem_cons, reduceCtorEq, Sum.inr.injEq, false_or, or_false, List.not_mem_nil, or_self] at hp
    obtain rfl : p = PN := hp
    exact pn_lasts
  rotate_left
  · intro v' w' X hv
    have h0 := slot_val3 (hv 27 _ 0 rfl rfl) rfl
    have HXF := Lib.hid (HX9.out.trans X)
    clear X hv
    refine q_norm3 (by simp only [putAll]; rewrite [h0]; go_simp; all_goals exact rfl) ?_
    go_wp2_with fail
    go_ret
    exact ⟨rfl, HXF.out⟩
  refine ⟨ty_move3 (gd_none3 rfl) rfl rfl (kn_old3 7 rfl rfl), ?_⟩
  refine ⟨ty_val3 (gd_none3 rfl) rfl (fun a w7 hX hH hN => ?_), ?_⟩
  · have h0 := (kn_new3 0 rfl rfl rfl rfl : Kn3 _ _ _ _ (.tmp 45) (.nilIface)) a w7 hH hN
    simp only [execOp, h0]
    rfl
  refine ⟨ty_move3 (gd_none3 rfl) rfl rfl (kn_new3 1 rfl rfl rfl rfl), ?_⟩
  refine ⟨ty_fieldAddr3 _ _ (gd_some3 2 rfl rfl rfl rfl rfl) rfl rfl (kn_old3 6 rfl rfl) (fun w1 => by kernel_rfl), ?_⟩
  refine ⟨ty_load13 ⟨w8.heap.size, 1, none⟩ _ (gd_some3 2 rfl rfl rfl rfl rfl) rfl rfl (kn_new3 3 rfl rfl rfl rfl) Tryz.underlying28 rfl (fun w7 hX => Ext.cellv hX (cell_of_blk HQ9.out 1)), ?_⟩
  refine ⟨ty_val3 (gd_some3 2 rfl rfl rfl rfl rfl) rfl (fun a w7 hX hH hN => ?_), ?_⟩
  · have h4 := (kn_new3 4 rfl rfl rfl rfl : Kn3 _ _ _ _ (.tmp 49) (.int .u64 2)) a w7 hH hN
    simp only [execOp, h4]
    rfl
  refine ⟨ty_pickT3 (gd_none3 rfl) rfl rfl (kn_new3 2 rfl rfl rfl rfl) (kn_new3 5 rfl rfl rfl rfl), ?_⟩
  refine ⟨ty_move3 (gd_none3 rfl) rfl rfl (kn_new3 6 rfl rfl rfl rfl), ?_⟩
  refine ⟨ty_fieldAddr3 _ _ (gd_some3 7 rfl rfl rfl rfl rfl) rfl rfl (kn_old3 6 rfl rfl) (fun w1 => by kernel_rfl), ?_⟩
  refine ⟨ty_loadAgg3 30 w8.heap.size 2 (R.map u8v) (gd_some3 7 rfl rfl rfl rfl rfl) rfl rfl (kn_new3 8 rfl rfl rfl rfl) Tryz.underlying30 rfl HSZ.out (fun w7 hX => ck_rootC (Ext.blk hX HQ9.out)), ?_⟩
  refine ⟨ty_call3 37 [.const (.string ⟨#[97]⟩)] _ (gd_some3 7 rfl rfl rfl rfl rfl) rfl body_leafH (fun a w7 hX hH hN => known_call3 rfl (leaf_h w7 ⟨#[97]⟩ (by decide) (HE.out.ext (HX9.out.trans hX)).sgw (HE.out.ext (HX9.out.trans hX)).sh)), ?_⟩
  refine ⟨ty_call3 37 [.const (.string ⟨#[98]⟩)] _ (gd_some3 7 rfl rfl rfl rfl rfl) rfl body_leafH (fun a w7 hX hH hN => known_call3 rfl (leaf_h w7 ⟨#[98]⟩ (by decide) (HE.out.ext (HX9.out.trans hX)).sgw (HE.out.ext (HX9.out.trans hX)).sh)), ?_⟩
  refine ⟨ty_call3 36 [.tmp 55, .tmp 56] _ (gd_some3 7 rfl rfl rfl rfl rfl) rfl body_nodeH (fun a w7 hX hH hN => ?_), ?_⟩
  · have h10 := (kn_new3 10 rfl rfl rfl rfl : Kn3 _ _ _ _ (.tmp 55) (hashV (leafH [97]))) a w7 hH hN
    have h11 := (kn_new3 11 rfl rfl rfl rfl : Kn3 _ _ _ _ (.tmp 56) (hashV (leafH [98]))) a w7 hH hN
    simp only [List.map_cons, List.map_nil, h10, h11]
    refine known_call3 rfl ?_
    rw [HRR.out]
    exact node_h w7 (leafH [97]) (leafH [98]) (leafH_len _) (leafH_len _) (HE.out.ext (HX9.out.trans hX)).sgw (HE.out.ext (HX9.out.trans hX)).sh
  refine ⟨ty_val3 (gd_some3 7 rfl rfl rfl rfl rfl) rfl (fun a w7 hX hH hN => ?_), ?_⟩
  · exact run_eqlH0 w7 rfl R ((kn_new3 9 rfl rfl rfl rfl : Kn3 _ _ _ _ (.tmp 54) (hashV R)) a w7 hH hN) ((kn_new3 12 rfl rfl rfl rfl : Kn3 _ _ _ _ (.tmp 57) (hashV R)) a w7 hH hN) HRL.out
  refine ⟨ty_pickT3 (gd_none3 rfl) rfl rfl (kn_new3 7 rfl rfl rfl rfl) (kn_new3 13 rfl rfl rfl rfl), ?_⟩
  refine ⟨ty_move3 (gd_none3 rfl) rfl rfl (kn_new3 14 rfl rfl rfl rfl), ?_⟩
  refine ⟨ty_fieldAddr3 _ _ (gd_some3 15 rfl rfl rfl rfl rfl) rfl rfl (kn_old3 6 rfl rfl) (fun w1 => by kernel_rfl), ?_⟩
  refine ⟨ty_loadAgg3 30 w8.heap.size 2 (R.map u8v) (gd_some3 15 rfl rfl rfl rfl rfl) rfl rfl (kn_new3 16 rfl rfl rfl rfl) Tryz.underlying30 rfl HSZ.out (fun w7 hX => ck_rootC (Ext.blk hX HQ9.out)), ?_⟩
  refine ⟨ty_val3 (gd_some3 15 rfl rfl rfl rfl rfl) rfl (fun a w7 hX hH hN => exec_build w7 [] rfl [] _ rfl (run_hash0 w7)), ?_⟩
  refine ⟨ty_val3 (gd_some3 15 rfl rfl rfl rfl rfl) rfl (fun a w7 hX hH hN => ?_), ?_⟩
  · exact run_neqH1 w7 rfl R z32B ((kn_new3 17 rfl rfl rfl rfl : Kn3 _ _ _ _ (.tmp 62) (hashV R)) a w7 hH hN) ((kn_new3 18 rfl rfl rfl rfl : Kn3 _ _ _ _ (.tmp 63) (hashV z32B)) a w7 hH hN) HRL.out z32B_len HRZ.out
  refine ⟨ty_pickT3 (gd_none3 rfl) rfl rfl (kn_new3 15 rfl rfl rfl rfl) (kn_new3 19 rfl rfl rfl rfl), ?_⟩
  refine ⟨ty_move3 (gd_none3 rfl) rfl rfl (kn_new3 20 rfl rfl rfl rfl), ?_⟩
  refine ⟨ty_move3 (gd_some3 21 rfl rfl rfl rfl rfl) rfl rfl (kn_old3 1 rfl rfl), ?_⟩
  refine ⟨ty_call13 39 _ _ _ (gd_some3 21 rfl rfl rfl rfl rfl) rfl body_names (kn_new3 22 rfl rfl rfl rfl) (fun w7 hX => by
    refine (names_any (HS9.out.ext hX) (show 4 ≤ 4398046511104 by decide)).mono ?_
    rintro e w' ⟨g, cap, rfl, hown, hx⟩
    refine ⟨_, rfl, hx, ⟨g, cap, rfl, ?_⟩⟩
    rw [names_ab] at hown
    exact texts_of_own hown (fun x hx => by
      simp only [List.mem_cons, List.not_mem_nil, or_false] at hx
      rcases hx with rfl | rfl | rfl | rfl <;> decide)), ?_⟩
  refine ⟨ty_run3 (gd_some3 21 rfl rfl rfl rfl rfl) (fun a w7 hX hH hN => ?_), ?_⟩
  · obtain ⟨i0, hi0, hz0, hz1, hz2⟩ := info_parts info_strF
    refine ⟨_, _, ?_, (Upd.refl none' w7).alloc (.cells #[.string (str headB), .string (str nL0), .string (str nL1), .string (str nT0)] 9), ⟨w7.heap.size, 4, rfl, texts_new4 w7⟩⟩
    simp only [execOp, List.map_toArray, List.map_cons, List.map_nil, Act.eval, Sem.run_bind]
    have h := run_build4 w7 22 9 i0 Tryz.underlying22 hi0 hz0 hz1 (str headB) (str nL0) (str nL1) (str nT0)
    refine Eq.trans (congrArg (fun r => Result.andThen r _) h) ?_
    rfl
  refine ⟨ty_call3 38 [.tmp 68, .tmp 69] _ (gd_some3 21 rfl rfl rfl rfl rfl) rfl body_sameT (fun a w7 hX hH hN => ?_), ?_⟩
  · obtain ⟨g1, c1, h1, t1⟩ := (new_prop3 23 hN rfl rfl rfl rfl : PN (a.eval (.tmp 68)) w7)
    obtain ⟨g2, c2, h2, t2⟩ := (new_prop3 24 hN rfl rfl rfl rfl : PN (a.eval (.tmp 69)) w7)
    simp only [List.map_cons, List.map_nil, h1, h2]
    exact known_call3 rfl (sameTexts_any t1 t2 c1 c2 (by decide))
  refine ⟨ty_pickT3 (gd_none3 rfl) rfl rfl (kn_new3 21 rfl rfl rfl rfl) (kn_new3 25 rfl rfl rfl rfl), ?_⟩
  refine ⟨ty_assign3 (gd_none3 rfl) rfl rfl (kn_new3 26 rfl rfl rfl rfl), trivial⟩

set_option maxRecDepth 8000 in
set_option maxHeartbeats 4000000 in
theorem textsSize_g {w : World} {a : Option Addr} {l : List ByteArray} (h : TextsAt w a l) (ca : Nat) (hl : l.length ≤ 9223372036854775807) : Calls Tryz.prog 10 #[.slice a l.length ca] w fun e w' => ∃ z, e = .returned (.int .i64 z) ∧ w = w' := by
  have HH := Lib.hid h
  have HL := Lib.hid hl
  clear h hl
  go_enter Tryz.func10, Tryz.ntmps10
  go_wp2_with fail
  go_loopw [3, 4] (fun tv iv wr => ∃ (j : Nat) (z : Int), j ≤ l.length ∧ iv = .int .i64 j ∧ tv = .int .i64 z ∧ w = wr) (fun _ iv _ => l.length - (RowKit.intOf iv).toNat)
  case atStart => exact ⟨0, 0, by omega, rfl, rfl, rfl⟩
  case round =>
    obtain ⟨j, z, hj, rfl, rfl, rfl⟩ := hrel
    by_cases hlt : j < l.length
    · have hg := List.getElem?_eq_getElem hlt
      generalize l[j] = s at hg
      obtain ⟨h1, b, o, rfl, hc⟩ := HH.out j s hg
      have hlti : (j : Int) < l.length := by omega
      have HW := Lib.hid (show wrap64 ((j : Int) + 1) = ((j + 1 : Nat) : Int) by have := HL.out; unfold wrap64; omega)
      clear hg h1
      by_cases hz : z ≤ 1048576
      · go_wp2_with fail
        have hm4 : (RowKit.intOf (.int .i64 (wrap64 ((j : Int) + 1)))).toNat = j + 1 := by rw [HW.out]; simp [RowKit.intOf]
        refine ⟨⟨j + 1, _, by omega, by rw [HW.out], rfl, trivial⟩, ?_⟩
        have hm5 : (RowKit.intOf (.int .i64 (j : Int))).toNat = j := by simp [RowKit.intOf]
        show l.length - (RowKit.intOf (.int .i64 (wrap64 ((j : Int) + 1)))).toNat < l.length - (RowKit.intOf (.int .i64 (j : Int))).toNat
        rw [hm4, hm5]; omega
      · go_wp2_with fail
        go_ret
        exact ⟨⟨_, rfl⟩, rfl⟩
    · have hlti : ¬ (j : Int) < l.length := by omega
      go_wp2_with fail
      go_ret
      exact ⟨⟨_, rfl⟩, rfl⟩
set_option maxRecDepth 8000 in
theorem beyond_g (b : Nat) (z : Int) (w : World) (hb : w.heap[b]? = some (.cells #[.int .i64 z] 3 (0, 0))) : Calls Tryz.prog 9 #[.slice (some ⟨b, 0, none⟩) 1 1] w fun e w' => ∃ r : Bool, e = .returned (.bool r) ∧ w = w' := by
  have c0 : w.cell? ⟨b, 0, none⟩ = some (.int .i64 z) := cell_of_blk hb 0
  clear hb
  go_enter Tryz.func9, Tryz.ntmps9
  go_wp2_with fail
  go_loopw [3, 4] (fun tv iv wr => ∃ j : Nat, j ≤ 1 ∧ iv = .int .i64 j ∧ (j = 0 → tv = .int .i64 0) ∧ w = wr) (fun _ iv _ => 1 - (RowKit.intOf iv).toNat)
  case atStart => exact ⟨0, by omega, rfl, fun _ => rfl, rfl⟩
  case round =>
    obtain ⟨j, hj, rfl, htv, rfl⟩ := hrel
    by_cases h0 : j = 0
    · subst h0
      obtain rfl := htv rfl
      clear htv
      by_cases hlt : (1048576 : Int) < wrap64 z
      · go_wp2_with fail
        go_ret
        exact ⟨_, rfl, rfl⟩
      · go_wp2_with fail
        exact ⟨⟨1, by omega, rfl, fun h => by omega, trivial⟩, by simp [RowKit.intOf]⟩
    · obtain rfl : j = 1 := by omega
      go_wp2_with fail
      go_ret
      exact ⟨_, rfl, rfl⟩

abbrev zstA : Array Value := #[.map none, .slice none 0 0, .int .i64 0, .int .i64 0, .int .i64 0, .bool false]
abbrev zwrA : Array Value := #[.pointer none, .string ⟨#[]⟩, .int .u64 0, .int .u8 0, .int .u8 0, .int .u8 0, .int .u8 0, .int .u8 0, .int .u8 0, .int .u8 0, .int .u8 0, .int .u8 0, .int .u8 0, .int .u8 0, .int .u8 0, .int .u8 0, .int .u8 0, .int .u8 0, .int .u8 0, .int .u8 0, .int .u8 0, .int .u8 0, .int .u8 0, .int .u8 0, .int .u8 0, .int .u8 0, .int .u8 0, .int .u8 0, .int .u8 0, .int .u8 0, .int .u8 0, .int .u8 0, .int .u8 0, .int .u8 0, .int .u8 0, .slice none 0 0, .slice none 0 0, .bool false]
set_option maxRecDepth 20000 in
set_option maxHeartbeats 16000000 in
theorem writerNone_any {B : Nat} {se : Nat → Addr} {w : World} (E : Env B se w) {a : Option Addr} {l : List ByteArray} (h : TextsAt w a l) (ca : Nat) (hl : l.length ≤ 9223372036854775807) (o : List UInt8) :
    Calls Tryz.prog 3 #[.slice a l.length ca, .string (str o)] w fun e w' => e = .returned (.bool true) ∧ Ext w w' := by
  have CA := alive25_any E
  have HE := Lib.hid E
  have HT := Lib.hid h
  have HL := Lib.hid hl
  obtain ⟨n, hn⟩ : ∃ n, n = l.length := ⟨_, rfl⟩
  have HN := Lib.hid hn
  rw [← hn]
  clear E h hl hn
  go_enter Tryz.func3, Tryz.ntmps3
  go_wp2_with fail
  refine CA.mono ?_
  rintro e w1 ⟨rfl, hx1⟩
  have HX1 := Lib.hid hx1
  have CT := textsSize_g (HT.out.later hx1) ca HL.out
  rw [← HN.out] at CT
  clear hx1 CA
  go_wp2_with fail
  refine CT.mono ?_
  rintro e w2 ⟨z, rfl, rfl⟩
  clear CT
  have HX2 := Lib.hid (HX1.out.alloc (.cells #[.int .i64 z] 3))
  have CB := beyond_g w1.heap.size z (w1.alloc (.cells #[.int .i64 z] 3)) (blk_alloc _ _)
  go_wp2_with fail
  refine CB.mono ?_
  rintro e w3 ⟨r, rfl, hw3⟩
  clear CB
  generalize w1.alloc (.cells #[.int .i64 z] 3) = W2 at *
  subst hw3
  cases r with
  | true =>
    have CA := alive25_any (HE.out.ext HX2.out)
    go_wp2_with fail
    refine CA.mono ?_
    rintro e w4 ⟨rfl, hx4⟩
    have HX4 := Lib.hid (HX2.out.trans hx4)
    clear hx4 CA
    go_wp2_with fail
    go_ret
    exact ⟨rfl, HX4.out⟩
  | false =>
    go_wp2_with fail
    have HB3 : Hid (((W2.alloc (.cells zwrA 35)).alloc (.cells #[.pointer none, .pointer (some ⟨W2.heap.size, 0, none⟩)] 36)).heap[W2.heap.size + 1]? = some (.cells #[.pointer none, .pointer (some ⟨W2.heap.size, 0, none⟩)] 36 (0, 0))) := Lib.hid (by
      have := blk_alloc (W2.alloc (.cells zwrA 35)) (.cells #[.pointer none, .pointer (some ⟨W2.heap.size, 0, none⟩)] 36)
      rwa [World.size_alloc] at this)
    have HW3 : Hid (WrAt ((W2.alloc (.cells zwrA 35)).alloc (.cells #[.pointer none, .pointer (some ⟨W2.heap.size, 0, none⟩)] 36)) W2.heap.size (.pointer none) [] 0 z32B nilS false) := Lib.hid ⟨blk_alloc_lt (blk_alloc W2 (.cells zwrA 35)) _⟩
    have HX3 := Lib.hid ((HX2.out.alloc (.cells zwrA 35)).alloc (.cells #[.pointer none, .pointer (some ⟨W2.heap.size, 0, none⟩)] 36))
    generalize (W2.alloc (.cells zwrA 35)).alloc (.cells #[.pointer none, .pointer (some ⟨W2.heap.size, 0, none⟩)] 36) = W3 at *
    generalize hab : W2.heap.size + 1 = ab at *
    generalize W2.heap.size = zw at *
    clear hab
    go_loopw [7] (fun iv wr => ∃ i : Nat, i ≤ 2 ∧ iv = .int .i64 i ∧ Ext W3 wr) (fun iv _ => 2 - (RowKit.intOf iv).toNat)
    case atStart => exact ⟨0, by omega, rfl, Upd.refl _ _⟩
    case round =>
      obtain ⟨i, hi, rfl, hu⟩ := hrel
      have HX := Lib.hid (HX3.out.trans hu)
      have HW := Lib.hid (HW3.out.ext hu)
      have HAB := Lib.hid (Ext.blk hu HB3.out)
      have HU := Lib.hid hu
      clear hu
      by_cases h0 : i = 0
      · subst h0
        clear hi
        have c0 : wr.cell? ⟨ab, 0, none⟩ = some (.pointer none) := cell_of_blk HAB.out 0
        have CP := append_none (HE.out.ext HX.out) a n ca
        go_wp2_with fail
        refine CP.mono ?_
        rintro e w4 ⟨rfl, hx4⟩
        have HX4 := Lib.hid (HX.out.trans hx4)
        have X5 := hx4.alloc (.cells (ckC [] 0 z32B).toArray 32)
        have HY5 := Lib.hid X5
        have HX5 := Lib.hid (HX.out.trans X5)
        have HC5 := Lib.hid (blk_cells (blk_alloc w4 (.cells (ckC [] 0 z32B).toArray 32)))
        have CI := is0_any (HE.out.ext HX5.out).g (v := sv se 1) (x := some (1, none)) ⟨by decide, by decide, rfl⟩ 1
        rw [show (codeOf (some (1, none)) == 1 && (!placed (some (1, none)) || placeOf (some (1, none)) == 0)) = true from rfl] at CI
        clear hx4 CP X5 c0
        go_wp2_with (first
          | refine store_new rfl 32 _ _ rfl _ _ rfl (ckC [] 0 z32B) rfl ckz_size rfl (ck_one _ _ _) ?_)
        refine CI.mono ?_
        rintro e w5 ⟨rfl, hx5⟩
        have HX6 := Lib.hid (HX5.out.trans hx5)
        have HY6 := Lib.hid (HY5.out.trans hx5)
        have HC6 : Hid (∀ j v, (ckC [] 0 z32B)[j]? = some v → w5.cell? ⟨w4.heap.size, 0 + j, none⟩ = some v) := Lib.hid (fun j v hv => Ext.cellv hx5 (HC5.out j v hv))
        have CS := sameCk_any w5 [] 0 z32B z32B_len
        clear hx5 CI
        go_wp2_with (first
          | refine wpList_runG rfl (run_ldA _ rfl w4.heap.size 0 rfl (ckC [] 0 z32B) Tryz.underlying32 rfl ckz_size HC6.out) ?_
          | refine wpList_runG rfl (exec_build _ [] rfl [] _ rfl (run_zck _)) ?_)
        refine CS.mono ?_
        rintro e w6 ⟨rfl, hx6⟩
        have HX7 := Lib.hid (HX6.out.trans hx6)
        have HY7 := Lib.hid (HY6.out.trans hx6)
        have c0 : w6.cell? ⟨ab, 0, none⟩ = some (.pointer none) := cell_of_blk (Ext.blk HY7.out HAB.out) 0
        have CK := ckp_nil w6
        clear hx6 CS
        go_wp2_with fail
        refine CK.mono ?_
        rintro e w7 ⟨rfl, hx7⟩
        have HX8 := Lib.hid (HX7.out.trans hx7)
        have HY8 := Lib.hid (HY7.out.trans hx7)
        have CS := sameCk_any w7 [] 0 z32B z32B_len
        clear hx7 CK c0
        go_wp2_with (first
          | refine wpList_runG rfl (exec_build _ [] rfl [] _ rfl (run_zck _)) ?_)
        refine CS.mono ?_
        rintro e w8 ⟨rfl, hx8⟩
        have HX9 := Lib.hid (HX8.out.trans hx8)
        have HY9 : Hid (Ext wr w8) := Lib.hid (HY8.out.trans hx8)
        clear hx8 CS
        go_wp2_with fail
        exact ⟨⟨1, by omega, rfl, HU.out.trans HY9.out⟩, by simp [RowKit.intOf]⟩
      · by_cases h1 : i = 1
        · subst h1
          clear hi h0
          have c0 : wr.cell? ⟨ab, 1, none⟩ = some (.pointer (some ⟨zw, 0, none⟩)) := cell_of_blk HAB.out 1
          have CP := append_zero (HE.out.ext HX.out) HW.out a n ca
          go_wp2_with fail
          refine CP.mono ?_
          rintro e w4 ⟨rfl, hx4⟩
          have HX4 := Lib.hid (HX.out.trans hx4)
          have X5 := hx4.alloc (.cells (ckC [] 0 z32B).toArray 32)
          have HY5 := Lib.hid X5
          have HX5 := Lib.hid (HX.out.trans X5)
          have HC5 := Lib.hid (blk_cells (blk_alloc w4 (.cells (ckC [] 0 z32B).toArray 32)))
          have CI := is0_any (HE.out.ext HX5.out).g (v := sv se 1) (x := some (1, none)) ⟨by decide, by decide, rfl⟩ 1
          rw [show (codeOf (some (1, none)) == 1 && (!placed (some (1, none)) || placeOf (some (1, none)) == 0)) = true from rfl] at CI
          clear hx4 CP X5 c0
          go_wp2_with (first
            | refine store_new rfl 32 _ _ rfl _ _ rfl (ckC [] 0 z32B) rfl ckz_size rfl (ck_one _ _ _) ?_)
          refine CI.mono ?_
          rintro e w5 ⟨rfl, hx5⟩
          have HX6 := Lib.hid (HX5.out.trans hx5)
          have HY6 := Lib.hid (HY5.out.trans hx5)
          have HC6 : Hid (∀ j v, (ckC [] 0 z32B)[j]? = some v → w5.cell? ⟨w4.heap.size, 0 + j, none⟩ = some v) := Lib.hid (fun j v hv => Ext.cellv hx5 (HC5.out j v hv))
          have CS := sameCk_any w5 [] 0 z32B z32B_len
          clear hx5 CI
          go_wp2_with (first
            | refine wpList_runG rfl (run_ldA _ rfl w4.heap.size 0 rfl (ckC [] 0 z32B) Tryz.underlying32 rfl ckz_size HC6.out) ?_
            | refine wpList_runG rfl (exec_build _ [] rfl [] _ rfl (run_zck _)) ?_)
          refine CS.mono ?_
          rintro e w6 ⟨rfl, hx6⟩
          have HX7 := Lib.hid (HX6.out.trans hx6)
          have HY7 := Lib.hid (HY6.out.trans hx6)
          have c0 : w6.cell? ⟨ab, 1, none⟩ = some (.pointer (some ⟨zw, 0, none⟩)) := cell_of_blk (Ext.blk HY7.out HAB.out) 1
          have CK := ckp_any (HW.out.ext HY7.out) z32B_len
          clear hx6 CS
          go_wp2_with fail
          refine CK.mono ?_
          rintro e w7 ⟨rfl, hx7⟩
          have HX8 := Lib.hid (HX7.out.trans hx7)
          have HY8 := Lib.hid (HY7.out.trans hx7)
          have CS := sameCk_any w7 [] 0 z32B z32B_len
          clear hx7 CK c0
          go_wp2_with (first
            | refine wpList_runG rfl (exec_build _ [] rfl [] _ rfl (run_zck _)) ?_)
          refine CS.mono ?_
          rintro e w8 ⟨rfl, hx8⟩
          have HX9 := Lib.hid (HX8.out.trans hx8)
          have HY9 : Hid (Ext wr w8) := Lib.hid (HY8.out.trans hx8)
          clear hx8 CS
          go_wp2_with fail
          exact ⟨⟨2, by omega, rfl, HU.out.trans HY9.out⟩, by simp [RowKit.intOf]⟩
        · obtain rfl : i = 2 := by omega
          clear hi h0 h1
          have CC := create_none (HE.out.ext HX.out) o
          go_wp2_with fail
          refine CC.mono ?_
          rintro e w4 ⟨rfl, hx4⟩
          have HX4 := Lib.hid (HX.out.trans hx4)
          have HX5 := Lib.hid (HX4.out.alloc (.cells zstA 51))
          have HZ5 : Hid (ZeroAt (w4.alloc (.cells zstA 51)) w4.heap.size) := Lib.hid (blk_alloc w4 (.cells zstA 51))
          have CC := create_zero (HE.out.ext HX5.out) HZ5.out o
          clear hx4
          go_wp2_with fail
          refine CC.mono ?_
          rintro e w6 ⟨rfl, hx6⟩
          have HX6 := Lib.hid (HX5.out.trans hx6)
          have CC := resume_none (HE.out.ext HX6.out) [] 0 z32B nilS
          clear hx6
          go_wp2_with (first
            | refine wpList_runG rfl (exec_build _ [] rfl [] _ rfl (run_zck _)) ?_)
          refine CC.mono ?_
          rintro e w7 ⟨rfl, hx7⟩
          have HX7 := Lib.hid (HX6.out.trans hx7)
          have HX8 := Lib.hid (HX7.out.alloc (.cells zstA 51))
          have HZ8 : Hid (ZeroAt (w7.alloc (.cells zstA 51)) w7.heap.size) := Lib.hid (blk_alloc w7 (.cells zstA 51))
          have CC := resume_zero (HE.out.ext HX8.out) HZ8.out [] 0 z32B nilS
          clear hx7
          go_wp2_with (first
            | refine wpList_runG rfl (exec_build _ [] rfl [] _ rfl (run_zck _)) ?_)
          refine CC.mono ?_
          rintro e w9 ⟨rfl, hx9⟩
          have HX9 := Lib.hid (HX8.out.trans hx9)
          clear hx9 CC
          have CI := is0_any (HE.out.ext HX9.out).g (v := sv se 1) (x := some (1, none)) ⟨by decide, by decide, rfl⟩ 1
          rw [show (codeOf (some (1, none)) == 1 && (!placed (some (1, none)) || placeOf (some (1, none)) == 0)) = true from rfl] at CI
          go_wp2_with fail
          refine CI.mono ?_
          rintro e w10 ⟨rfl, hx10⟩
          have HX10 := Lib.hid (HX9.out.trans hx10)
          clear hx10 CI
          have CI := is0_any (HE.out.ext HX10.out).g (v := sv se 1) (x := some (1, none)) ⟨by decide, by decide, rfl⟩ 1
          rw [show (codeOf (some (1, none)) == 1 && (!placed (some (1, none)) || placeOf (some (1, none)) == 0)) = true from rfl] at CI
          go_wp2_with fail
          refine CI.mono ?_
          rintro e w11 ⟨rfl, hx11⟩
          have HX11 := Lib.hid (HX10.out.trans hx11)
          clear hx11 CI
          have CI := is0_any (HE.out.ext HX11.out).g (v := sv se 1) (x := some (1, none)) ⟨by decide, by decide, rfl⟩ 1
          rw [show (codeOf (some (1, none)) == 1 && (!placed (some (1, none)) || placeOf (some (1, none)) == 0)) = true from rfl] at CI
          go_wp2_with fail
          refine CI.mono ?_
          rintro e w12 ⟨rfl, hx12⟩
          have HX12 := Lib.hid (HX11.out.trans hx12)
          clear hx12 CI
          have CI := is0_any (HE.out.ext HX12.out).g (v := sv se 1) (x := some (1, none)) ⟨by decide, by decide, rfl⟩ 1
          rw [show (codeOf (some (1, none)) == 1 && (!placed (some (1, none)) || placeOf (some (1, none)) == 0)) = true from rfl] at CI
          go_wp2_with fail
          refine CI.mono ?_
          rintro e w13 ⟨rfl, hx13⟩
          have HX13 := Lib.hid (HX12.out.trans hx13)
          clear hx13 CI
          go_wp2_with fail
          go_ret
          exact ⟨rfl, HX13.out⟩
theorem writerNone_str {B : Nat} {se : Nat → Addr} {w : World} (E : Env B se w) {a : Option Addr} {l : List ByteArray} (h : TextsAt w a l) (ca : Nat) (hl : l.length ≤ 9223372036854775807) (s : ByteArray) :
    Calls Tryz.prog 3 #[.slice a l.length ca, .string s] w fun e w' => e = .returned (.bool true) ∧ Ext w w' := by
  have C := writerNone_any E h ca hl s.data.toList
  rw [str_toList] at C
  exact C
end Go.Proofs.YtnkcfkjeeennmaaGreatDoor
