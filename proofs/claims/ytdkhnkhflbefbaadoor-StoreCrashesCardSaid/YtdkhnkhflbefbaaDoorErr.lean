/- The errors of package api: errors.Is at the sixteen sentinels, errors.As at *api.Fault, and the statements' Code, At, Is, IsAt, Same, by contracts. Go's own text of errors.Is, is, As, as is walked. -/
import Derived.Test.YtdkhnkhflbefbaaDoorBase
namespace Go.Proofs.YtdkhnkhflbefbaaDoor
open Go.RowKit Go.Extern.Stop Go.Stop Go.Extern

/-! ### closed facts on the model's entries for reflectlite at this program's types -/
theorem eTypeOfS (v : Value) (w : World) : (ReflectliteType.typeOf #[.iface 125 v]).run Tryd.prog w = .ok (.iface 102 (.agg #[.pointer (some ⟨17, 125, none⟩)])) w := by kernel_rfl
theorem eTypeOfF (v : Value) (w : World) : (ReflectliteType.typeOf #[.iface 65 v]).run Tryd.prog w = .ok (.iface 102 (.agg #[.pointer (some ⟨17, 65, none⟩)])) w := by kernel_rfl
/-- The model's entry for (rtype).Comparable, behind a name. -/
def entComparable : Array Value → Sem Value := ReflectliteType.method fun t => do Rtype.noPackHeld "Comparable" t; pure (.bool (← typeInfo t).comparable)
theorem eComparable (w : World) : (entComparable #[.agg #[.pointer (some ⟨17, 125, none⟩)]]).run Tryd.prog w = .ok (.bool true) w := by kernel_rfl
theorem eMethodComparable (v : Value) (w : World) : (Go.method 257 102 v "Comparable").run Tryd.prog w = .ok (81, v) w := by kernel_rfl
theorem eComp : (Tryd.prog.info? 125).map (·.comparable) = some true := by kernel_rfl
theorem eSize : (Tryd.prog.info? 146).map (·.size) = some 1 := by kernel_rfl
theorem eNoIsS (v : Value) (xT : TypeId) (w : World) : (Instr.typeAssert (.iface 125 v) xT 114 true).run Tryd.prog w = .ok (.tuple #[.nilIface, .bool false]) w := run_typeAssert_lacksB Tryd.underlying114 (by kernel_rfl) (by kernel_rfl) v xT w
theorem eNoUnwrapS (v : Value) (xT : TypeId) (w : World) : (Instr.typeAssert (.iface 125 v) xT 109 true).run Tryd.prog w = .ok (.tuple #[.nilIface, .bool false]) w := run_typeAssert_lacksB Tryd.underlying109 (by kernel_rfl) (by kernel_rfl) v xT w
theorem eNoUnwrapsS (v : Value) (xT : TypeId) (w : World) : (Instr.typeAssert (.iface 125 v) xT 111 true).run Tryd.prog w = .ok (.tuple #[.nilIface, .bool false]) w := run_typeAssert_lacksB Tryd.underlying111 (by kernel_rfl) (by kernel_rfl) v xT w
theorem eNoAsS (v : Value) (xT : TypeId) (w : World) : (Instr.typeAssert (.iface 125 v) xT 106 true).run Tryd.prog w = .ok (.tuple #[.nilIface, .bool false]) w := run_typeAssert_lacksB Tryd.underlying106 (by kernel_rfl) (by kernel_rfl) v xT w
theorem eNoIsF (v : Value) (xT : TypeId) (w : World) : (Instr.typeAssert (.iface 65 v) xT 114 true).run Tryd.prog w = .ok (.tuple #[.nilIface, .bool false]) w := run_typeAssert_lacksB Tryd.underlying114 (by kernel_rfl) (by kernel_rfl) v xT w
theorem eHasUnwrapF (v : Value) (xT : TypeId) (w : World) : (Instr.typeAssert (.iface 65 v) xT 109 true).run Tryd.prog w = .ok (.tuple #[.iface 65 v, .bool true]) w := run_typeAssert_hasB Tryd.underlying109 (by kernel_rfl) v xT w
theorem eMethodUnwrap (v : Value) (w : World) : (Go.method 257 65 v "Unwrap").run Tryd.prog w = .ok (75, v) w := by kernel_rfl

/-- (*Fault).Unwrap. -/
theorem unwrap_any (b : Nat) (v : Value) (w : World) (h : w.cell? ⟨b, 0, none⟩ = some v) :
    Calls Tryd.prog 75 #[.pointer (some ⟨b, 0, none⟩)] w fun e w' => e = .returned v ∧ w = w' := by
  go_enter Tryd.func75, Tryd.ntmps75
  go_wp2
  go_ret
  exact ⟨rfl, rfl⟩

theorem is_nil (b : Addr) (w : World) :
    Calls Tryd.prog 28 #[.nilIface, .iface 125 (.pointer (some b))] w fun e w' => e = .returned (.bool false) ∧ w = w' := by
  have hn := run_eql_iface_nil_left (P := Tryd.prog) w 125 (.pointer (some b)) Tryd.underlying33
  go_enter Tryd.func28, Tryd.ntmps28
  go_wp2
  go_ret
  exact ⟨rfl, rfl⟩

set_option maxHeartbeats 1000000 in
theorem is_same (a : Addr) (w : World) :
    Calls Tryd.prog 28 #[.iface 125 (.pointer (some a)), .iface 125 (.pointer (some a))] w fun e w' => e = .returned (.bool true) ∧ w = w' := by
  obtain ⟨i, hi, hcmp⟩ := Option.map_eq_some_iff.1 eComp
  obtain ⟨j, hj, hjs⟩ := Option.map_eq_some_iff.1 eSize
  have h8 := @run_callFunc_extern Tryd.prog 35 _ ReflectliteType.typeOf Tryd.func35 (by kernel_rfl) (by kernel_rfl) (by kernel_rfl) (by kernel_rfl)
  have h32 := @run_callFunc_extern Tryd.prog 81 _ entComparable Tryd.func81 (by kernel_rfl) (by kernel_rfl) (by kernel_rfl) (by kernel_rfl)
  have tT := eTypeOfS
  have cT := eComparable
  have mR := eMethodComparable
  have heq := run_eql_iface_ptr_same (P := Tryd.prog) w a Tryd.underlying33 Tryd.underlying125 hi hcmp hj
  go_enter Tryd.func28, Tryd.ntmps28
  go_wp2
  refine wp_loop_rounds 1 ?_
  rw [rounds_succ]
  go_wp2
  go_ret
  exact ⟨rfl, rfl⟩

set_option maxHeartbeats 1000000 in
theorem is_other (a b : Addr) (ca cb : Array Value) (ta tb : TypeId) (w : World) (hne : a ≠ b) (ha : w.heap[a.block]? = some (.cells ca ta (0, 0))) (hb : w.heap[b.block]? = some (.cells cb tb (0, 0))) :
    Calls Tryd.prog 28 #[.iface 125 (.pointer (some a)), .iface 125 (.pointer (some b))] w fun e w' => e = .returned (.bool false) ∧ w = w' := by
  obtain ⟨i, hi, hcmp⟩ := Option.map_eq_some_iff.1 eComp
  obtain ⟨j, hj, hjs⟩ := Option.map_eq_some_iff.1 eSize
  have h8 := @run_callFunc_extern Tryd.prog 35 _ ReflectliteType.typeOf Tryd.func35 (by kernel_rfl) (by kernel_rfl) (by kernel_rfl) (by kernel_rfl)
  have h32 := @run_callFunc_extern Tryd.prog 81 _ entComparable Tryd.func81 (by kernel_rfl) (by kernel_rfl) (by kernel_rfl) (by kernel_rfl)
  have tT := eTypeOfS
  have cT := eComparable
  have mR := eMethodComparable
  have nE := eNoIsS
  have uE := eNoUnwrapS
  have vE := eNoUnwrapsS
  have heq := run_eql_iface_ptr_other (P := Tryd.prog) w Tryd.underlying33 Tryd.underlying125 hi hcmp hj (by rw [hjs]; decide) hne ha hb
  clear ha hb hne
  go_enter Tryd.func28, Tryd.ntmps28
  go_wp2
  refine wp_loop_rounds 1 ?_
  rw [rounds_succ]
  go_wp2
  go_ret
  exact ⟨rfl, rfl⟩

set_option maxHeartbeats 1000000 in
theorem is_fault_same (p : Nat) (a : Addr) (w : World) (h1 : w.cell? ⟨p, 0, none⟩ = some (.iface 125 (.pointer (some a)))) :
    Calls Tryd.prog 28 #[.iface 65 (.pointer (some ⟨p, 0, none⟩)), .iface 125 (.pointer (some a))] w fun e w' => e = .returned (.bool true) ∧ w = w' := by
  obtain ⟨i, hi, hcmp⟩ := Option.map_eq_some_iff.1 eComp
  obtain ⟨j, hj, hjs⟩ := Option.map_eq_some_iff.1 eSize
  have h8 := @run_callFunc_extern Tryd.prog 35 _ ReflectliteType.typeOf Tryd.func35 (by kernel_rfl) (by kernel_rfl) (by kernel_rfl) (by kernel_rfl)
  have h32 := @run_callFunc_extern Tryd.prog 81 _ entComparable Tryd.func81 (by kernel_rfl) (by kernel_rfl) (by kernel_rfl) (by kernel_rfl)
  have tT := eTypeOfS
  have cT := eComparable
  have mR := eMethodComparable
  have nW := eNoIsF
  have uW := eHasUnwrapF
  have mU := eMethodUnwrap
  have hun := run_eql_iface_types (P := Tryd.prog) 65 125 (.pointer (some ⟨p, 0, none⟩)) (.pointer (some a)) Tryd.underlying33 (by decide) w
  have heq := run_eql_iface_ptr_same (P := Tryd.prog) w a Tryd.underlying33 Tryd.underlying125 hi hcmp hj
  go_enter Tryd.func28, Tryd.ntmps28
  go_wp2
  refine wp_loop_rounds 2 ?_
  rw [rounds_succ]
  go_wp2
  rw [rounds_succ]
  go_wp2
  go_ret
  exact ⟨rfl, rfl⟩

set_option maxHeartbeats 1000000 in
theorem is_fault_other (p : Nat) (a b : Addr) (ca cb : Array Value) (ta tb : TypeId) (w : World) (h1 : w.cell? ⟨p, 0, none⟩ = some (.iface 125 (.pointer (some a)))) (hne : a ≠ b) (ha : w.heap[a.block]? = some (.cells ca ta (0, 0))) (hb : w.heap[b.block]? = some (.cells cb tb (0, 0))) :
    Calls Tryd.prog 28 #[.iface 65 (.pointer (some ⟨p, 0, none⟩)), .iface 125 (.pointer (some b))] w fun e w' => e = .returned (.bool false) ∧ w = w' := by
  obtain ⟨i, hi, hcmp⟩ := Option.map_eq_some_iff.1 eComp
  obtain ⟨j, hj, hjs⟩ := Option.map_eq_some_iff.1 eSize
  have h8 := @run_callFunc_extern Tryd.prog 35 _ ReflectliteType.typeOf Tryd.func35 (by kernel_rfl) (by kernel_rfl) (by kernel_rfl) (by kernel_rfl)
  have h32 := @run_callFunc_extern Tryd.prog 81 _ entComparable Tryd.func81 (by kernel_rfl) (by kernel_rfl) (by kernel_rfl) (by kernel_rfl)
  have tT := eTypeOfS
  have cT := eComparable
  have mR := eMethodComparable
  have nE := eNoIsS
  have uE := eNoUnwrapS
  have vE := eNoUnwrapsS
  have nW := eNoIsF
  have uW := eHasUnwrapF
  have mU := eMethodUnwrap
  have hun := run_eql_iface_types (P := Tryd.prog) 65 125 (.pointer (some ⟨p, 0, none⟩)) (.pointer (some b)) Tryd.underlying33 (by decide) w
  have heq := run_eql_iface_ptr_other (P := Tryd.prog) w Tryd.underlying33 Tryd.underlying125 hi hcmp hj (by rw [hjs]; decide) hne ha hb
  clear ha hb hne
  go_enter Tryd.func28, Tryd.ntmps28
  go_wp2
  refine wp_loop_rounds 2 ?_
  rw [rounds_succ]
  go_wp2
  rw [rounds_succ]
  go_wp2
  go_ret
  exact ⟨rfl, rfl⟩
end Go.Proofs.YtdkhnkhflbefbaaDoor
