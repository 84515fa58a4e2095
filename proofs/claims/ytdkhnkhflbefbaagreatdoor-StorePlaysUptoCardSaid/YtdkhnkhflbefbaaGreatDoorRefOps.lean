/- Steps of regions that draw their order (append, build, assign), and the references' errors as values. -/
import Derived.Test.YtdkhnkhflbefbaaGreatDoorStep
import Derived.Test.YtdkhnkhflbefbaaGreatDoorWriter
import Derived.Test.YtdkhnkhflbefbaaGreatDoorBuildOne
import Derived.Test.YtdkhnkhflbefbaaGreatDoorFaultV
import Derived.Deep.CutRange
namespace Go.Proofs.YtdkhnkhflbefbaaGreatDoor
open Go.RowKit Go.Lib

section
variable {P : Program} {ops : Array Oper} {Q : Exit → Act → World → Prop} {a : Act} {w : World} {i : Nat} {o : Oper} {K : Act → World → Prop}
theorem any_norm {md : Region.Mode} {n : Nat} {listed : Array Bool} {a' : Act} (h : a = a') (hk : wpAny P md ops Q n listed a' w) : wpAny P md ops Q n listed a w := h ▸ hk
theorem op_assign (hi : ops[i]? = some o) (hw : Region.wanted o (yielded ops a.tmps) = true) {x : Operand} (ho : o.op = .assign x) (v : Value) (hv : a.eval x = v) (h : K (a.put o.dst v) w) : wpOp P ops Q i K a w := by
  subst hv
  exact op_val hi hw (by simp [execOp, ho]) h
theorem op_build1 (hi : ops[i]? = some o) (hw : Region.wanted o (yielded ops a.tmps) = true) (t e : TypeId) (y : Operand) (ho : o.op = .buildSlice t 1 #[(0, y)]) (v : Value) (hy : a.eval y = v) (hu : P.underlying t = some (.slice e))
    (ie : TypeInfo) (z : Value) (hie : P.info? e = some ie) (hz : ie.zero = some z) (hs : ie.size = 1) (hv : v.cells = #[v]) (h : K (a.put o.dst (.slice (some ⟨w.heap.size, 0, none⟩) 1 1)) (w.alloc (.cells #[v] e))) : wpOp P ops Q i K a w := by
  refine op_val hi hw ?_ h
  have hr := run_buildSlice (P := P) w t e 1 #[(0, v)] #[v] ie z hu hie hz (by rw [hs]; omega) (by rw [hs]; omega) (by
    simp only [Instr.fill, hs, Nat.zero_mul, Nat.one_mul, hv]
    rw [if_neg (by simp)]
    have := fold_all [v] ((Array.range 1).map (z.cells[· % z.cells.size]!)) (by simp)
    simpa using this)
  simp only [execOp, ho, List.map_toArray, List.map_cons, List.map_nil, hy, Sem.run_bind, hr, Result.andThen_ok]
  rfl
theorem op_appStr (hgi : ops[i]? = some o) (hw : Region.wanted o (yielded ops a.tmps) = true) (sl x : Operand) (t u : TypeId)
    (ho : o.op = .call { callee := .builtin .append, args := #[sl, x], argTypes := #[t, u] })
    (base : Nat) (e : TypeId) (it : TypeInfo) (ht : P.underlying t = some (.slice e)) (hu : P.underlying u = some .string) (hi : P.info? e = some it) (hz : it.zero = some (.int .u8 0))
    (hsize : it.size = 1) (hby : it.bytes = 1)
    (v : Value) (n : Nat) (xs : List Value) (hs : a.eval sl = v) (hown : w.ownsRow base e 1 v n xs) (s : ByteArray) (hx : a.eval x = .string s)
    (h63 : n + s.size ≤ maxLen) (hbytes : n + s.size ≤ 140737488355328) (hbase : base ≤ w.heap.size)
    (h : ∀ v' w', w'.ownsRow base e 1 v' (n + s.size) (xs ++ strCells s) → w.grownBy w' v.ownBlock → (v'.ownBlock = v.ownBlock ∨ v'.ownBlock = some w.heap.size) → K (a.put o.dst v') w') : wpOp P ops Q i K a w := by
  obtain ⟨v', w', hr, h2, h3, _⟩ := run_append_own_string (P := P) w base t u o.type e it ht hu hi hz hsize hby v n xs hown s h63 hbytes hbase
  have h4 := append_block_str w base t u o.type e it ht hu hi hz hsize hby v n xs hown s h63 hbytes v' w' hr
  refine op_val hgi hw ?_ (h v' w' h2 h3 h4)
  unfold execOp
  simp only [ho, resolve, invoke, builtin, Sem.run_bind, Sem.run_pure, Result.andThen_ok, List.map_toArray, List.map_cons, List.map_nil, hs, hx, hr]
end
/-- A new block of one byte is an own row. -/
theorem own_fresh {w0 w : World} {B : Nat} (h : Ext w0 w) (hB : B ≤ w0.heap.size) (v : Value) : (w.alloc (.cells #[v] 5)).ownsRow B 5 1 (.slice (some ⟨w.heap.size, 0, none⟩) 1 1) 1 [v] :=
  ⟨rfl, .inr ⟨w.heap.size, 1, #[v], rfl, Nat.le_trans hB h.size, blk_alloc _ _, Nat.le_refl _, by decide, rfl, rfl⟩⟩
def efC : EV → Int
  | none => 0
  | some (k, _) => k
def efA : EV → Int
  | none => 0
  | some (_, none) => -1
  | some (_, some n) => n
theorem efC_is (x : EV) : efC x = faultC x := by cases x <;> rfl
theorem efA_is (x : EV) : efA x = faultA x := by match x with | none => rfl | some (_, none) => rfl | some (_, some _) => rfl
abbrev efV (x : EV) : Value := .agg #[.int .i64 (efC x), .int .i64 (efA x)]
theorem fault_size2 : (Tryz.prog.info? 35).map (·.size) = some 2 := by kernel_rfl
def RefPost (w : World) (rb : List UInt8) (re : EV) (e : Ending) (w' : World) : Prop := e = .returned (.tuple #[.string (str rb), efV re]) ∧ Ext w w'
theorem fault_one (c d : Int) : ∀ u ∈ ([.int .i64 c, .int .i64 d] : List Value), u.oneCell' = true := fun u hu => by
  simp only [List.mem_cons, List.not_mem_nil, or_false] at hu
  rcases hu with rfl | rfl <;> rfl
end Go.Proofs.YtdkhnkhflbefbaaGreatDoor
