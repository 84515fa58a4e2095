/- A Book is told a list of texts. -/
import Derived.Test.YtdkhnkhflbefbaaGreatDoorApp
import Derived.Test.YtdkhnkhflbefbaaGreatDoorBookT
namespace Go.Proofs.YtdkhnkhflbefbaaGreatDoor
open Go.RowKit Go.Lib

theorem size_helds : (Tryz.prog.info? 43).map (·.size) = some 1 := by kernel_rfl
theorem held_zero : ((Tryz.prog.info? 111).bind (·.zero)).isSome = true := by kernel_rfl
theorem info_held : (Tryz.prog.info? 111).map (fun i => (i.zero, i.size, i.bytes)) = some (some (.agg #[.slice none 0 0, .slice none 0 0, .int .i64 0]), 3, 56) := by kernel_rfl
section
variable {P : Program} {ops : Array Oper} {Q : Exit → Act → World → Prop} {a : Act} {w : World} {i : Nat} {o : Oper} {K : Act → World → Prop}
theorem op_buildOneA (hi : ops[i]? = some o) (hw : Region.wanted o (yielded ops a.tmps) = true) (t e : TypeId) (y : Operand) (ho : o.op = .buildSlice t 1 #[(0, y)])
    (vs : List Value) (hy : a.eval y = .agg vs.toArray) (hu : P.underlying t = some (.slice e)) (hie : (P.info? e).map (·.size) = some vs.length) (hz : ((P.info? e).bind (·.zero)).isSome = true) (hpos : 0 < vs.length) (hsmall : vs.length ≤ 16777216)
    (h : K (a.put o.dst (.slice (some ⟨w.heap.size, 0, none⟩) 1 1)) (w.alloc (.cells vs.toArray e))) : wpOp P ops Q i K a w := by
  cases hq : P.info? e with
  | none => simp [hq] at hie
  | some ie =>
    simp only [hq, Option.map_some, Option.some.injEq, Option.bind_some] at hie hz
    obtain ⟨z, hzz⟩ := Option.isSome_iff_exists.1 hz
    refine op_val hi hw ?_ h
    have hr := run_buildSlice (P := P) w t e 1 #[(0, .agg vs.toArray)] vs.toArray ie z hu hq hzz (by rw [hie]; omega) (by rw [hie]; omega) (by
      simp only [Instr.fill, Value.cells, hie, Nat.zero_mul, Nat.one_mul]
      rw [if_neg (by simp), fold_all _ _ (by simp)])
    simp only [execOp, ho, List.map_toArray, List.map_cons, List.map_nil, hy, Sem.run_bind, hr, Result.andThen_ok]
    rfl
end
section
variable {B : Nat} {W W2 : World} {tv tv' : Value} {L : List HeldD} {C : Nat → List Value}
theorem HoldT.keep (h : HoldT B W tv L C) {v : Value} {n : Nat} {xs : List Value} (hv : W.ownsRow B 9 1 v n xs) (hsep : ∀ (i : Nat) h g, L[i]? = some h → v.ownBlock = some g → h.v.ownBlock ≠ some g) {num : Nat}
    (ho : W2.ownsRow B 111 3 tv' (L.length + 1) (heldsL L ++ [v, .slice none 0 0, .int .i64 num])) (hg : W.grownBy W2 tv.ownBlock) : HoldT B W2 tv' (L ++ [⟨v, .slice none 0 0, n, num⟩]) (fun j => if j = L.length then xs else C j) := by
  have U : Upd (fun g => tv.ownBlock = some g) W W2 := (Upd.refl _ W).grown hg (fun g hg => .inr hg)
  have get : ∀ (j : Nat) hd, (L ++ [⟨v, .slice none 0 0, n, num⟩])[j]? = some hd → (j = L.length ∧ hd = ⟨v, .slice none 0 0, n, num⟩) ∨ (j ≠ L.length ∧ L[j]? = some hd) := fun j hd hj => by
    by_cases hlt : j < L.length
    · rw [List.getElem?_append_left hlt] at hj
      exact .inr ⟨by omega, hj⟩
    · rw [List.getElem?_append_right (by omega)] at hj
      have hl := (List.getElem?_eq_some_iff.1 hj).1
      simp only [List.length_cons, List.length_nil] at hl
      have e : j = L.length := by omega
      subst e
      simp only [Nat.sub_self, List.getElem?_cons_zero, Option.some.injEq] at hj
      exact .inl ⟨rfl, hj.symm⟩
  refine ⟨?_, fun j hd hj => ?_, fun j k hd hd' g hj hk hne hg2 => ?_⟩
  · have e : heldsL (L ++ [⟨v, .slice none 0 0, n, num⟩]) = heldsL L ++ [v, .slice none 0 0, .int .i64 num] := by unfold heldsL; rw [List.flatMap_append]; rfl
    rw [e, List.length_append]
    exact ho
  · rcases get j hd hj with ⟨e, rfl⟩ | ⟨e, hj⟩
    · simp only [if_pos e]
      exact ownsRow_upd hv U (fun g hg2 hs => own_apart hv h.row (by decide) hg2 hs)
    · simp only [if_neg e]
      exact ownsRow_upd (h.own j hd hj) U (fun g hg2 hs => h.apart ⟨j, hd, hj, hg2⟩ hs)
  · rcases get j hd hj with ⟨e, rfl⟩ | ⟨e, hj⟩ <;> rcases get k hd' hk with ⟨e', rfl⟩ | ⟨e', hk⟩
    · omega
    · exact hsep k hd' g hk hg2
    · exact fun hg3 => hsep j hd g hj hg3 hg2
    · exact h.sep j k hd hd' g hj hk hne hg2
/-- A store into the book itself. -/
theorem HoldT.store (h : HoldT B W tv L C) {b : Nat} {cs : Array Value} {f : Nat × Nat} (hb : W.heap[b]? = some (.cells cs 58 f)) (c : Nat) (u : Value) : HoldT B (W.setCell ⟨b, c, none⟩ u) tv L C := by
  refine h.upd ((Upd.refl (one b) W).setCell (p := ⟨b, c, none⟩) (.inr rfl) u) (fun g hg => ?_)
  obtain rfl : g = b := hg
  refine ⟨fun ⟨i, hd, hi, hg2⟩ => ?_, fun hg2 => ?_⟩
  · obtain ⟨cl, h1⟩ := own_ty (h.own i hd hi) hg2
    rw [hb] at h1
    simp only [Option.some.injEq, Obj.cells.injEq] at h1
    exact absurd h1.2.1 (by decide)
  · obtain ⟨cl, h1⟩ := own_ty h.row hg2
    rw [hb] at h1
    simp only [Option.some.injEq, Obj.cells.injEq] at h1
    exact absurd h1.2.1 (by decide)
end
theorem row_not_book {W : World} {B b : Nat} {e : TypeId} {size n : Nat} {v : Value} {xs : List Value} {cs : Array Value} {f : Nat × Nat} (h : W.ownsRow B e size v n xs) (hb : W.heap[b]? = some (.cells cs 58 f)) (he : e ≠ 58) : v.ownBlock ≠ some b := fun hg => by
  obtain ⟨cl, h1⟩ := own_ty h hg
  rw [hb] at h1
  simp only [Option.some.injEq, Obj.cells.injEq] at h1
  exact he h1.2.1.symm

set_option maxRecDepth 8000 in
set_option maxHeartbeats 4000000 in
theorem keepT_any {B b N : Nat} {W : World} {tv v : Value} {L : List HeldD} {C : Nat → List Value} {cs : List Value} {n : Nat} {xs : List Value} (hb : W.heap[b]? = some (.cells cs.toArray 58 (0, 0))) (h0 : cs[0]? = some (.int .i64 N)) (h3 : cs[3]? = some tv)
    (H : HoldT B W tv L C) (hv : W.ownsRow B 9 1 v n xs) (hsep : ∀ (i : Nat) h g, L[i]? = some h → v.ownBlock = some g → h.v.ownBlock ≠ some g) (hB : B ≤ W.heap.size) (hN : N ≤ 4000000) (hn : L.length ≤ 4000000) :
    Calls Tryz.prog 94 #[.pointer (some ⟨b, 0, none⟩), v] W fun e W' => e = .returned (.tuple #[]) ∧ ∃ tv', HoldT B W' tv' (L ++ [⟨v, .slice none 0 0, n, N + 1⟩]) (fun j => if j = L.length then xs else C j) ∧
      W'.heap[b]? = some (.cells ((cs.toArray.setIfInBounds 0 (.int .i64 ((N : Int) + 1))).setIfInBounds 3 tv') 58 (0, 0)) ∧ Upd (fun g => g = b ∨ tv.ownBlock = some g) W W' := by
  obtain ⟨j0, hj0, hjz0, hjz1, hjz2⟩ := info_parts info_held
  obtain ⟨va, vcap, rfl⟩ := own_slice hv
  have c0 : W.cell? ⟨b, 0, none⟩ = some (.int .i64 N) := by rw [cell_of_blk hb]; simpa using h0
  have f0 := free_of_blk hb 0
  have hs := blk_set hb 0 (.int .i64 ((N : Int) + 1))
  have HBK1 := Lib.hid hs
  have HH1 := Lib.hid (H.store hb 0 (.int .i64 ((N : Int) + 1)))
  have U1 : Upd (fun g => g = b ∨ tv.ownBlock = some g) W (W.setCell ⟨b, 0, none⟩ (.int .i64 ((N : Int) + 1))) := (Upd.refl _ W).setCell (p := ⟨b, 0, none⟩) (.inr (.inl rfl)) _
  have HU1 := Lib.hid U1
  have HV1 := Lib.hid (ownsRow_upd hv ((Upd.refl (one b) W).setCell (p := ⟨b, 0, none⟩) (.inr rfl) (.int .i64 ((N : Int) + 1))) (fun g hg e => by
    obtain rfl : g = b := e
    exact row_not_book hv hb (by decide) hg))
  have HSEP := Lib.hid hsep
  have HB1 := Lib.hid (Nat.le_trans hB U1.size)
  have hl0 : 0 < cs.length := (List.getElem?_eq_some_iff.1 h0).1
  have HC0 := Lib.hid (show (cs.toArray.setIfInBounds 0 (.int .i64 ((N : Int) + 1)))[0]? = some (.int .i64 ((N : Int) + 1)) by simp [hl0])
  have HC3 := Lib.hid (show (cs.toArray.setIfInBounds 0 (.int .i64 ((N : Int) + 1)))[3]? = some tv by rw [Array.getElem?_setIfInBounds_ne (by decide)]; simpa using h3)
  have HBT := Lib.hid (row_not_book H.row hb (by decide))
  have HM := Lib.hid (show L.length + 1 ≤ maxLen ∧ (L.length + 1) * 56 ≤ 140737488355328 by unfold maxLen; omega)
  have HONE := Lib.hid (held_one (.slice va n vcap) (.slice none 0 0) ((N : Int) + 1) rfl rfl)
  clear hb h0 h3 H hv hsep hB hn hs U1 hl0
  go_enter Tryz.func94, Tryz.ntmps94
  go_wp2_with fail
  generalize hW1 : W.setCell ⟨b, 0, none⟩ (.int .i64 ((N : Int) + 1)) = W1 at *
  refine wp_region_any (by kernel_rfl) ?_
  change wpAny _ _ _ _ _ _ _ (World.drew _)
  have hdr := (Upd.refl none' W1).drew
  have HH := Lib.hid (HH1.out.ext hdr)
  have HV := Lib.hid (ownsRow_upd HV1.out hdr (fun _ _ e => e))
  have HBK := Lib.hid (Ext.blk hdr HBK1.out)
  have HU := Lib.hid (HU1.out.thenExt hdr)
  have HSZ := Lib.hid (Nat.le_trans HB1.out hdr.size)
  clear hdr
  generalize W1.drew = wd at HH HV HBK HU HSZ ⊢
  (refine wpAny_take (i := 0) (v := ?_) rfl (by kernel_rfl) (by kernel_rfl) (by kernel_rfl) (fun _ _ _ h => h) (Or.inl ⟨by rfl, ?_⟩) ?_; rotate_left; (· (intro w; go_simp; all_goals (with_reducible rfl))); refine any_norm (by go_simp; all_goals exact rfl) ?_)
  (refine wpAny_take (i := 1) (v := ?_) rfl (by kernel_rfl) (by kernel_rfl) (by kernel_rfl) (fun _ _ _ h => h) (Or.inl ⟨by rfl, ?_⟩) ?_; rotate_left; (· (intro w; go_simp; all_goals (with_reducible rfl))); refine any_norm (by go_simp; all_goals exact rfl) ?_)
  (refine wpAny_take (i := 2) (v := ?_) rfl (by kernel_rfl) (by kernel_rfl) (by kernel_rfl) (fun _ _ _ h => h) (Or.inl ⟨by rfl, ?_⟩) ?_; rotate_left; (· (intro w; go_simp; all_goals (with_reducible rfl))); refine any_norm (by go_simp; all_goals exact rfl) ?_)
  (refine wpAny_take (i := 3) (v := ?_) rfl (by kernel_rfl) (by kernel_rfl) (by kernel_rfl) (fun _ _ _ h => h) (Or.inl ⟨by rfl, ?_⟩) ?_; rotate_left; (· (intro w; go_simp; all_goals (with_reducible rfl))); refine any_norm (by go_simp; all_goals exact rfl) ?_)
  (refine wpAny_take (i := 5) (v := ?_) rfl (by kernel_rfl) (by kernel_rfl) (by kernel_rfl) (fun _ _ _ h => h) (Or.inl ⟨by rfl, ?_⟩) ?_; rotate_left; (· (intro w; go_simp; all_goals (with_reducible rfl))); refine any_norm (by go_simp; all_goals exact rfl) ?_)
  (refine wpAny_take (i := 6) (v := ?_) rfl (by kernel_rfl) (by kernel_rfl) (by kernel_rfl) (fun _ _ _ h => h) (Or.inl ⟨by rfl, ?_⟩) ?_; rotate_left; (· (intro w; go_simp; all_goals (with_reducible rfl))); refine any_norm (by go_simp; all_goals exact rfl) ?_)
  (refine wpAny_take (i := 7) (v := ?_) rfl (by kernel_rfl) (by kernel_rfl) (by kernel_rfl) (fun _ _ _ h => h) (Or.inl ⟨by rfl, ?_⟩) ?_; rotate_left; (· (intro w; go_simp; all_goals (with_reducible rfl))); refine any_norm (by go_simp; all_goals exact rfl) ?_)
  (refine wpAny_take (i := 8) (v := ?_) rfl (by kernel_rfl) (by kernel_rfl) (by kernel_rfl) (fun _ _ _ h => h) (Or.inl ⟨by rfl, ?_⟩) ?_; rotate_left; (· (intro w; go_simp; all_goals (with_reducible rfl))); refine any_norm (by go_simp; all_goals exact rfl) ?_)
  refine any2 4 9 (by kernel_rfl) ?_ ?_
  · have cl := (cell_of_blk HBK.out 3).trans HC3.out
    refine op_load1 rfl (by rfl) rfl ⟨b, 3, none⟩ tv rfl Tryz.underlying43 rfl (by rw [cl]) ?_
    clear cl
    refine any_norm (by go_simp; all_goals exact rfl) ?_
    refine any1 9 (by kernel_rfl) ?_
    have cl := (cell_of_blk HBK.out 0).trans HC0.out
    refine op_load1 rfl (by rfl) rfl ⟨b, 0, none⟩ (.int .i64 ((N : Int) + 1)) rfl Tryz.underlying3 rfl (by rw [cl]) ?_
    clear cl
    refine any_norm (by go_simp; all_goals exact rfl) ?_
    (refine wpAny_take (i := 10) (v := ?_) rfl (by kernel_rfl) (by kernel_rfl) (by kernel_rfl) (fun _ _ _ h => h) (Or.inl ⟨by rfl, ?_⟩) ?_; rotate_left; (· (intro w; go_simp; all_goals (with_reducible rfl))); refine any_norm (by go_simp; all_goals exact rfl) ?_)
    refine any1 11 (by kernel_rfl) ?_
    rename World => wb
    refine op_buildOneA rfl (by rfl) 43 111 _ rfl [.slice va n vcap, .slice none 0 0, .int .i64 ((N : Int) + 1)] rfl Tryz.underlying43 held_size held_zero (by simp) (by simp) ?_
    have hb4 := blk_alloc wb (.cells #[.slice va n vcap, .slice none 0 0, .int .i64 ((N : Int) + 1)] 111)
    have HN4 := Lib.hid (fun (j : Nat) (u : Value) (hu : ([.slice va n vcap, .slice none 0 0, .int .i64 ((N : Int) + 1)] : List Value)[j]? = some u) => show World.cell? _ ((⟨wb.heap.size, 0, none⟩ : Addr).add j) = some u from by rw [show (⟨wb.heap.size, 0, none⟩ : Addr).add j = ⟨wb.heap.size, j, none⟩ from by unfold Addr.add; split <;> simp_all, cell_of_blk hb4]; simpa using hu)
    have hal := (Upd.refl none' wb).alloc (.cells #[.slice va n vcap, .slice none 0 0, .int .i64 ((N : Int) + 1)] 111)
    replace HH := Lib.hid (HH.out.ext hal)
    replace HV := Lib.hid (ownsRow_upd HV.out hal (fun _ _ e => e))
    replace HBK := Lib.hid (Ext.blk hal HBK.out)
    replace HU := Lib.hid (HU.out.thenExt hal)
    replace HSZ := Lib.hid (Nat.le_trans HSZ.out hal.size)
    clear hb4 hal
    refine any_norm (by go_simp; all_goals exact rfl) ?_
    refine any1 12 (by kernel_rfl) ?_
    refine op_app1 rfl (by rfl) (.tmp 15) (.tmp 22) 43 rfl B 111 j0 _ 3 56 Tryz.underlying43 hj0 hjz0 hjz1 hjz2 rfl (by decide) tv _ _ rfl HH.out.row ⟨wb.heap.size, 0, none⟩ 1 1 [.slice va n vcap, .slice none 0 0, .int .i64 ((N : Int) + 1)] rfl rfl HN4.out HONE.out HM.out.1 HM.out.2 HSZ.out ?_
    intro tv' w7 ho hg _
    have hk := HH.out.keep HV.out HSEP.out (num := N + 1) ho hg
    have hbk := (Upd.refl (fun g => tv.ownBlock = some g) _).grown hg (fun g hg => .inr hg)
    have HBK7 := Lib.hid (hbk.blk HBK.out HBT.out)
    have HU7 := Lib.hid (HU.out.grown hg (fun g hg => .inr (.inr hg)))
    have HK7 := Lib.hid hk
    have HO7 := Lib.hid (own_oneA hk.row)
    have HC7 := Lib.hid (own_cells hk.row)
    clear ho hg hk hbk
    refine any_norm (by go_simp; all_goals exact rfl) ?_
    (refine wpAny_take (i := 13) (v := ?_) rfl (by kernel_rfl) (by kernel_rfl) (by kernel_rfl) (fun _ _ _ h => h) (Or.inl ⟨by rfl, ?_⟩) ?_; rotate_left; (· (intro w; go_simp; all_goals (with_reducible rfl))); refine any_norm (by go_simp; all_goals exact rfl) ?_)
    (refine wpAny_take (i := 14) (v := ?_) rfl (by kernel_rfl) (by kernel_rfl) (by kernel_rfl) (fun _ _ _ h => h) (Or.inl ⟨by rfl, ?_⟩) ?_; rotate_left; (· (intro w; go_simp; all_goals (with_reducible rfl))); refine any_norm (by go_simp; all_goals exact rfl) ?_)
    refine any1 15 (by kernel_rfl) ?_
    have c3 := (cell_of_blk HBK7.out 3).trans HC3.out
    have f3 := free_of_blk HBK7.out 3
    refine op_store1 rfl (by rfl) 43 _ _ rfl ⟨b, 3, none⟩ rfl tv' rfl HC7.out HO7.out size_helds tv (by rw [c3]) f3 ?_
    clear c3 f3
    refine any_norm (by go_simp; all_goals exact rfl) ?_
    refine wpAny_done (by kernel_rfl) ?_ _
    go_wp2_with fail
    go_end0
    exact ⟨rfl, tv', HK7.out.store HBK7.out 3 tv', blk_set HBK7.out 3 tv', HU7.out.setCell (p := ⟨b, 3, none⟩) (.inr (.inl rfl)) tv'⟩
  · have cl := (cell_of_blk HBK.out 0).trans HC0.out
    refine op_load1 rfl (by rfl) rfl ⟨b, 0, none⟩ (.int .i64 ((N : Int) + 1)) rfl Tryz.underlying3 rfl (by rw [cl]) ?_
    clear cl
    refine any_norm (by go_simp; all_goals exact rfl) ?_
    (refine wpAny_take (i := 10) (v := ?_) rfl (by kernel_rfl) (by kernel_rfl) (by kernel_rfl) (fun _ _ _ h => h) (Or.inl ⟨by rfl, ?_⟩) ?_; rotate_left; (· (intro w; go_simp; all_goals (with_reducible rfl))); refine any_norm (by go_simp; all_goals exact rfl) ?_)
    refine any2 4 11 (by kernel_rfl) ?_ ?_
    · have cl := (cell_of_blk HBK.out 3).trans HC3.out
      refine op_load1 rfl (by rfl) rfl ⟨b, 3, none⟩ tv rfl Tryz.underlying43 rfl (by rw [cl]) ?_
      clear cl
      refine any_norm (by go_simp; all_goals exact rfl) ?_
      refine any1 11 (by kernel_rfl) ?_
      rename World => wb
      refine op_buildOneA rfl (by rfl) 43 111 _ rfl [.slice va n vcap, .slice none 0 0, .int .i64 ((N : Int) + 1)] rfl Tryz.underlying43 held_size held_zero (by simp) (by simp) ?_
      have hb4 := blk_alloc wb (.cells #[.slice va n vcap, .slice none 0 0, .int .i64 ((N : Int) + 1)] 111)
      have HN4 := Lib.hid (fun (j : Nat) (u : Value) (hu : ([.slice va n vcap, .slice none 0 0, .int .i64 ((N : Int) + 1)] : List Value)[j]? = some u) => show World.cell? _ ((⟨wb.heap.size, 0, none⟩ : Addr).add j) = some u from by rw [show (⟨wb.heap.size, 0, none⟩ : Addr).add j = ⟨wb.heap.size, j, none⟩ from by unfold Addr.add; split <;> simp_all, cell_of_blk hb4]; simpa using hu)
      have hal := (Upd.refl none' wb).alloc (.cells #[.slice va n vcap, .slice none 0 0, .int .i64 ((N : Int) + 1)] 111)
      replace HH := Lib.hid (HH.out.ext hal)
      replace HV := Lib.hid (ownsRow_upd HV.out hal (fun _ _ e => e))
      replace HBK := Lib.hid (Ext.blk hal HBK.out)
      replace HU := Lib.hid (HU.out.thenExt hal)
      replace HSZ := Lib.hid (Nat.le_trans HSZ.out hal.size)
      clear hb4 hal
      refine any_norm (by go_simp; all_goals exact rfl) ?_
      refine any1 12 (by kernel_rfl) ?_
      refine op_app1 rfl (by rfl) (.tmp 15) (.tmp 22) 43 rfl B 111 j0 _ 3 56 Tryz.underlying43 hj0 hjz0 hjz1 hjz2 rfl (by decide) tv _ _ rfl HH.out.row ⟨wb.heap.size, 0, none⟩ 1 1 [.slice va n vcap, .slice none 0 0, .int .i64 ((N : Int) + 1)] rfl rfl HN4.out HONE.out HM.out.1 HM.out.2 HSZ.out ?_
      intro tv' w7 ho hg _
      have hk := HH.out.keep HV.out HSEP.out (num := N + 1) ho hg
      have hbk := (Upd.refl (fun g => tv.ownBlock = some g) _).grown hg (fun g hg => .inr hg)
      have HBK7 := Lib.hid (hbk.blk HBK.out HBT.out)
      have HU7 := Lib.hid (HU.out.grown hg (fun g hg => .inr (.inr hg)))
      have HK7 := Lib.hid hk
      have HO7 := Lib.hid (own_oneA hk.row)
      have HC7 := Lib.hid (own_cells hk.row)
      clear ho hg hk hbk
      refine any_norm (by go_simp; all_goals exact rfl) ?_
      (refine wpAny_take (i := 13) (v := ?_) rfl (by kernel_rfl) (by kernel_rfl) (by kernel_rfl) (fun _ _ _ h => h) (Or.inl ⟨by rfl, ?_⟩) ?_; rotate_left; (· (intro w; go_simp; all_goals (with_reducible rfl))); refine any_norm (by go_simp; all_goals exact rfl) ?_)
      (refine wpAny_take (i := 14) (v := ?_) rfl (by kernel_rfl) (by kernel_rfl) (by kernel_rfl) (fun _ _ _ h => h) (Or.inl ⟨by rfl, ?_⟩) ?_; rotate_left; (· (intro w; go_simp; all_goals (with_reducible rfl))); refine any_norm (by go_simp; all_goals exact rfl) ?_)
      refine any1 15 (by kernel_rfl) ?_
      have c3 := (cell_of_blk HBK7.out 3).trans HC3.out
      have f3 := free_of_blk HBK7.out 3
      refine op_store1 rfl (by rfl) 43 _ _ rfl ⟨b, 3, none⟩ rfl tv' rfl HC7.out HO7.out size_helds tv (by rw [c3]) f3 ?_
      clear c3 f3
      refine any_norm (by go_simp; all_goals exact rfl) ?_
      refine wpAny_done (by kernel_rfl) ?_ _
      go_wp2_with fail
      go_end0
      exact ⟨rfl, tv', HK7.out.store HBK7.out 3 tv', blk_set HBK7.out 3 tv', HU7.out.setCell (p := ⟨b, 3, none⟩) (.inr (.inl rfl)) tv'⟩
    · rename World => wb
      refine op_buildOneA rfl (by rfl) 43 111 _ rfl [.slice va n vcap, .slice none 0 0, .int .i64 ((N : Int) + 1)] rfl Tryz.underlying43 held_size held_zero (by simp) (by simp) ?_
      have hb4 := blk_alloc wb (.cells #[.slice va n vcap, .slice none 0 0, .int .i64 ((N : Int) + 1)] 111)
      have HN4 := Lib.hid (fun (j : Nat) (u : Value) (hu : ([.slice va n vcap, .slice none 0 0, .int .i64 ((N : Int) + 1)] : List Value)[j]? = some u) => show World.cell? _ ((⟨wb.heap.size, 0, none⟩ : Addr).add j) = some u from by rw [show (⟨wb.heap.size, 0, none⟩ : Addr).add j = ⟨wb.heap.size, j, none⟩ from by unfold Addr.add; split <;> simp_all, cell_of_blk hb4]; simpa using hu)
      have hal := (Upd.refl none' wb).alloc (.cells #[.slice va n vcap, .slice none 0 0, .int .i64 ((N : Int) + 1)] 111)
      replace HH := Lib.hid (HH.out.ext hal)
      replace HV := Lib.hid (ownsRow_upd HV.out hal (fun _ _ e => e))
      replace HBK := Lib.hid (Ext.blk hal HBK.out)
      replace HU := Lib.hid (HU.out.thenExt hal)
      replace HSZ := Lib.hid (Nat.le_trans HSZ.out hal.size)
      clear hb4 hal
      refine any_norm (by go_simp; all_goals exact rfl) ?_
      refine any1 4 (by kernel_rfl) ?_
      have cl := (cell_of_blk HBK.out 3).trans HC3.out
      refine op_load1 rfl (by rfl) rfl ⟨b, 3, none⟩ tv rfl Tryz.underlying43 rfl (by rw [cl]) ?_
      clear cl
      refine any_norm (by go_simp; all_goals exact rfl) ?_
      refine any1 12 (by kernel_rfl) ?_
      refine op_app1 rfl (by rfl) (.tmp 15) (.tmp 22) 43 rfl B 111 j0 _ 3 56 Tryz.underlying43 hj0 hjz0 hjz1 hjz2 rfl (by decide) tv _ _ rfl HH.out.row ⟨wb.heap.size, 0, none⟩ 1 1 [.slice va n vcap, .slice none 0 0, .int .i64 ((N : Int) + 1)] rfl rfl HN4.out HONE.out HM.out.1 HM.out.2 HSZ.out ?_
      intro tv' w7 ho hg _
      have hk := HH.out.keep HV.out HSEP.out (num := N + 1) ho hg
      have hbk := (Upd.refl (fun g => tv.ownBlock = some g) _).grown hg (fun g hg => .inr hg)
      have HBK7 := Lib.hid (hbk.blk HBK.out HBT.out)
      have HU7 := Lib.hid (HU.out.grown hg (fun g hg => .inr (.inr hg)))
      have HK7 := Lib.hid hk
      have HO7 := Lib.hid (own_oneA hk.row)
      have HC7 := Lib.hid (own_cells hk.row)
      clear ho hg hk hbk
      refine any_norm (by go_simp; all_goals exact rfl) ?_
      (refine wpAny_take (i := 13) (v := ?_) rfl (by kernel_rfl) (by kernel_rfl) (by kernel_rfl) (fun _ _ _ h => h) (Or.inl ⟨by rfl, ?_⟩) ?_; rotate_left; (· (intro w; go_simp; all_goals (with_reducible rfl))); refine any_norm (by go_simp; all_goals exact rfl) ?_)
      (refine wpAny_take (i := 14) (v := ?_) rfl (by kernel_rfl) (by kernel_rfl) (by kernel_rfl) (fun _ _ _ h => h) (Or.inl ⟨by rfl, ?_⟩) ?_; rotate_left; (· (intro w; go_simp; all_goals (with_reducible rfl))); refine any_norm (by go_simp; all_goals exact rfl) ?_)
      refine any1 15 (by kernel_rfl) ?_
      have c3 := (cell_of_blk HBK7.out 3).trans HC3.out
      have f3 := free_of_blk HBK7.out 3
      refine op_store1 rfl (by rfl) 43 _ _ rfl ⟨b, 3, none⟩ rfl tv' rfl HC7.out HO7.out size_helds tv (by rw [c3]) f3 ?_
      clear c3 f3
      refine any_norm (by go_simp; all_goals exact rfl) ?_
      refine wpAny_done (by kernel_rfl) ?_ _
      go_wp2_with fail
      go_end0
      exact ⟨rfl, tv', HK7.out.store HBK7.out 3 tv', blk_set HBK7.out 3 tv', HU7.out.setCell (p := ⟨b, 3, none⟩) (.inr (.inl rfl)) tv'⟩
end Go.Proofs.YtdkhnkhflbefbaaGreatDoor
