/- Steps of a region that draws its order, one branch for each order: for regions where an operation makes a block whose number hangs on the order. Nothing of the program. -/
import Derived.Test.YtkdhjighomnooaaDoorTyped
namespace Go.Proofs.YtkdhjighomnooaaDoor
open Go.RowKit Go.Lib

section
variable {P : Program} {ops : Array Oper} {Q : Exit → Act → World → Prop} {n : Nat} {listed : Array Bool} {a : Act} {w : World}
theorem any1 (i : Nat) (hr : Region.ready .any ops listed = [i]) (h : wpOp P ops Q i (wpAny P .any ops Q n (listed.setIfInBounds i true)) a w) : wpAny P .any ops Q (n + 1) listed a w :=
  wpAny_all hr (by simp) (fun j hj => by rw [List.mem_singleton.1 hj]; exact h)
theorem any2 (i j : Nat) (hr : Region.ready .any ops listed = [i, j]) (h1 : wpOp P ops Q i (wpAny P .any ops Q n (listed.setIfInBounds i true)) a w) (h2 : wpOp P ops Q j (wpAny P .any ops Q n (listed.setIfInBounds j true)) a w) : wpAny P .any ops Q (n + 1) listed a w :=
  wpAny_all hr (by simp) (fun m hm => by
    rcases List.mem_cons.1 hm with rfl | hm
    · exact h1
    · rw [List.mem_singleton.1 hm]; exact h2)
theorem any3 (i j k : Nat) (hr : Region.ready .any ops listed = [i, j, k]) (h1 : wpOp P ops Q i (wpAny P .any ops Q n (listed.setIfInBounds i true)) a w) (h2 : wpOp P ops Q j (wpAny P .any ops Q n (listed.setIfInBounds j true)) a w)
    (h3 : wpOp P ops Q k (wpAny P .any ops Q n (listed.setIfInBounds k true)) a w) : wpAny P .any ops Q (n + 1) listed a w :=
  wpAny_all hr (by simp) (fun m hm => by
    rcases List.mem_cons.1 hm with rfl | hm
    · exact h1
    · rcases List.mem_cons.1 hm with rfl | hm
      · exact h2
      · rw [List.mem_singleton.1 hm]; exact h3)
variable {i : Nat} {o : Oper} {K : Act → World → Prop}
theorem op_val {v : Value} {w' : World} (hi : ops[i]? = some o) (hw : Region.wanted o (yielded ops a.tmps) = true) (hr : (execOp a.eval o).run P w = .ok (.value v) w') (h : K (a.put o.dst v) w') : wpOp P ops Q i K a w := by
  unfold wpOp
  simp only [hi]
  rw [if_pos hw]
  left
  unfold Oper.wp
  rw [hr]
  exact h
theorem op_load1 (hi : ops[i]? = some o) (hw : Region.wanted o (yielded ops a.tmps) = true) {ty : TypeId} {x : Operand} (ho : o.op = .load ty x) (p : Addr) (v : Value) (hx : a.eval x = .pointer (some p)) {d : TypeDesc} (hu : P.underlying ty = some d) (hd : aggD d = false)
    (hc : w.cell? p = some v) (h : K (a.put o.dst v) w) : wpOp P ops Q i K a w := by
  refine op_val hi hw ?_ h
  have hagg : (isAgg ty).run P w = .ok false w := by
    unfold isAgg
    rw [Sem.run_bind, run_underlying hu w]
    cases d <;> simp_all [aggD]
  simp [execOp, ho, hx, Instr.loadAt, Instr.sureAddr, loadVar, Sem.run_bind, hagg, hc]
theorem op_loadAgg (hi : ops[i]? = some o) (hw : Region.wanted o (yielded ops a.tmps) = true) (ty : TypeId) (x : Operand) (ho : o.op = .load ty x) (g off : Nat) (hx : a.eval x = .pointer (some ⟨g, off, none⟩)) (vs : List Value) {d : TypeDesc} (hu : P.underlying ty = some d) (hd : aggD d = true)
    (hs : (P.info? ty).map (·.size) = some vs.length) (hc : ∀ j v, vs[j]? = some v → w.cell? ⟨g, off + j, none⟩ = some v) (h : K (a.put o.dst (.agg vs.toArray)) w) : wpOp P ops Q i K a w :=
  op_val hi hw (by simp only [execOp, ho, hx, Instr.loadAt, Instr.sureAddr, Sem.run_bind, Sem.run_pure, Result.andThen_ok, run_loadVar_at g off ty vs hu hd hs hc]) h
theorem op_callf (hi : ops[i]? = some o) (hw : Region.wanted o (yielded ops a.tmps) = true) (f : FuncId) (args : List Operand) (ts : Array TypeId)
    (ho : o.op = .call { callee := .value (.func f), args := args.toArray, argTypes := ts }) (hb : hasBody P f = true) (vals : List Value) (hv : args.map a.eval = vals) {R : Value → World → Prop}
    (C : Calls P f vals.toArray w fun e w' => ∃ v, e = .returned v ∧ R v w') (h : ∀ v w', R v w' → K (a.put o.dst v) w') : wpOp P ops Q i K a w := by
  unfold wpOp
  simp only [hi]
  rw [if_pos hw]
  left
  have := step_call (Q := Q) (E := True) hw f args ts ho hb vals hv C h
  rwa [if_pos hw] at this
theorem op_alloc (hi : ops[i]? = some o) (hw : Region.wanted o (yielded ops a.tmps) = true) (ty : TypeId) (ho : o.op = .alloc ty) (z : Value) (hz : (P.info? ty).bind (·.zero) = some z) (h : K (a.put o.dst (.pointer (some ⟨w.heap.size, 0, none⟩))) (w.alloc (.cells z.cells ty))) : wpOp P ops Q i K a w := by
  refine op_val hi hw ?_ h
  cases hq : P.info? ty with
  | none => simp [hq] at hz
  | some t =>
    have hz2 : t.zero = some z := by simpa [hq] using hz
    simp [execOp, ho, Instr.alloc, zeroValue, typeInfo, hq, hz2, newVar, newRow]
theorem op_storeAgg (hi : ops[i]? = some o) (hw : Region.wanted o (yielded ops a.tmps) = true) (ty : TypeId) (x y : Operand) (ho : o.op = .store ty x y)
    (g : Nat) (hx : a.eval x = .pointer (some ⟨g, 0, none⟩)) (vs : List Value) (hy : a.eval y = .agg vs.toArray) (hs : (P.info? ty).map (·.size) = some vs.length)
    (cs : List Value) (t : TypeId) (hg : w.heap[g]? = some (.cells cs.toArray t (0, 0))) (hfit : cs.length = vs.length) (h1 : ∀ u ∈ vs, u.oneCell' = true)
    (h : K (a.put o.dst undef) (w.setRow g vs.toArray)) : wpOp P ops Q i K a w := by
  unfold wpOp
  simp only [hi]
  rw [if_pos hw]
  left
  have hst := run_storeCells_at P g 0 t vs 0 cs.toArray w hg (by simp; omega) h1
  cases hq : P.info? ty with
  | none => simp [hq] at hs
  | some it =>
    have hss : it.size = vs.length := by simpa [hq] using hs
    have hov : vs ++ List.drop vs.length cs = vs := by rw [List.drop_eq_nil_of_le (by omega), List.append_nil]
    simp only [Nat.add_zero, Nat.zero_add] at hst
    unfold Oper.wp execOp
    simp [ho, hx, hy, Instr.storeAt, Instr.sureAddr, storeVar, sizeOf, typeInfo, hq, hss, Value.cells, hst, hov]
    exact h
end
end Go.Proofs.YtkdhjighomnooaaDoor
