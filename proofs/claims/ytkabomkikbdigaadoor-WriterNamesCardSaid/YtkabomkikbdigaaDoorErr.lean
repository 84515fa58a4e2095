/- The errors of package api: errors.Is at the sixteen sentinels, errors.As at *api.Fault, and the statements' Code, At, Is, IsAt, Same, by contracts. Go's own text of errors.Is, is, As, as is walked. -/
import Derived.Test.YtkabomkikbdigaaDoorBase
namespace Go.Proofs.YtkabomkikbdigaaDoor
open Go.RowKit Go.Extern.Stop Go.Stop Go.Extern

/-! ### closed facts on the model's entries for reflectlite at this program's types -/
theorem eTypeOfS (v : Value) (w : World) : (ReflectliteType.typeOf #[.iface 149 v]).run Tryd.prog w = .ok (.iface 121 (.agg #[.pointer (some ⟨20, 149, none⟩)])) w := by kernel_rfl
theorem eTypeOfF (v : Value) (w : World) : (ReflectliteType.typeOf #[.iface 94 v]).run Tryd.prog w = .ok (.iface 121 (.agg #[.pointer (some ⟨20, 94, none⟩)])) w := by kernel_rfl
/-- The model's entry for (rtype).Comparable, behind a name. -/
def entComparable : Array Value → Sem Value := ReflectliteType.method fun t => do Rtype.noPackHeld "Comparable" t; pure (.bool (← typeInfo t).comparable)
theorem eComparable (w : World) : (entComparable #[.agg #[.pointer (some ⟨20, 149, none⟩)]]).run Tryd.prog w = .ok (.bool true) w := by kernel_rfl
theorem eMethodComparable (v : Value) (w : World) : (Go.method 280 121 v "Comparable").run Tryd.prog w = .ok (111, v) w := by kernel_rfl
theorem eComp : (Tryd.prog.info? 149).map (·.comparable) = some true := by kernel_rfl
theorem eSize : (Tryd.prog.info? 168).map (·.size) = some 1 := by kernel_rfl
theorem eNoIsS (v : Value) (xT : TypeId) (w : World) : (Instr.typeAssert (.iface 149 v) xT 132 true).run Tryd.prog w = .ok (.tuple #[.nilIface, .bool false]) w := run_typeAssert_lacksB Tryd.underlying132 (by kernel_rfl) (by kernel_rfl) v xT w
theorem eNoUnwrapS (v : Value) (xT : TypeId) (w : World) : (Instr.typeAssert (.iface 149 v) xT 128 true).run Tryd.prog w = .ok (.tuple #[.nilIface, .bool false]) w := run_typeAssert_lacksB Tryd.underlying128 (by kernel_rfl) (by kernel_rfl) v xT w
theorem eNoUnwrapsS (v : Value) (xT : TypeId) (w : World) : (Instr.typeAssert (.iface 149 v) xT 129 true).run Tryd.prog w = .ok (.tuple #[.nilIface, .bool false]) w := run_typeAssert_lacksB Tryd.underlying129 (by kernel_rfl) (by kernel_rfl) v xT w
theorem eNoAsS (v : Value) (xT : TypeId) (w : World) : (Instr.typeAssert (.iface 149 v) xT 125 true).run Tryd.prog w = .ok (.tuple #[.nilIface, .bool false]) w := run_typeAssert_lacksB Tryd.underlying125 (by kernel_rfl) (by kernel_rfl) v xT w
theorem eNoIsF (v : Value) (xT : TypeId) (w : World) : (Instr.typeAssert (.iface 94 v) xT 132 true).run Tryd.prog w = .ok (.tuple #[.nilIface, .bool false]) w := run_typeAssert_lacksB Tryd.underlying132 (by kernel_rfl) (by kernel_rfl) v xT w
theorem eHasUnwrapF (v : Value) (xT : TypeId) (w : World) : (Instr.typeAssert (.iface 94 v) xT 128 true).run Tryd.prog w = .ok (.tuple #[.iface 94 v, .bool true]) w := run_typeAssert_hasB Tryd.underlying128 (by kernel_rfl) v xT w
theorem eMethodUnwrap (v : Value) (w : World) : (Go.method 280 94 v "Unwrap").run Tryd.prog w = .ok (105, v) w := by kernel_rfl

/-- (*Fault).Unwrap. -/
theorem unwrap_any (b : Nat) (v : Value) (w : World) (h : w.cell? ⟨b, 0, none⟩ = some v) :
    Calls Tryd.prog 105 #[.pointer (some ⟨b, 0, none⟩)] w fun e w' => e = .returned v ∧ w = w' := by
  go_enter Tryd.func105, Tryd.ntmps105
  go_wp2
  go_ret
  exact ⟨rfl, rfl⟩

theorem is_nil (b : Addr) (w : World) :
    Calls Tryd.prog 63 #[.nilIface, .iface 149 (.pointer (some b))] w fun e w' => e = .returned (.bool false) ∧ w = w' := by
  have hn := run_eql_iface_nil_left (P := Tryd.prog) w 149 (.pointer (some b)) Tryd.underlying44
  go_enter Tryd.func63, Tryd.ntmps63
  go_wp2
  go_ret
  exact ⟨rfl, rfl⟩

set_option maxHeartbeats 1000000 in
theorem is_same (a : Addr) (w : World) :
    Calls Tryd.prog 63 #[.iface 149 (.pointer (some a)), .iface 149 (.pointer (some a))] w fun e w' => e = .returned (.bool true) ∧ w = w' := by
  obtain ⟨i, hi, hcmp⟩ := Option.map_eq_some_iff.1 eComp
  obtain ⟨j, hj, hjs⟩ := Option.map_eq_some_iff.1 eSize
  have h8 := @run_callFunc_extern Tryd.prog 71 _ ReflectliteType.typeOf Tryd.func71 (by kernel_rfl) (by kernel_rfl) (by kernel_rfl) (by kernel_rfl)
  have h32 := @run_callFunc_extern Tryd.prog 111 _ entComparable Tryd.func111 (by kernel_rfl) (by kernel_rfl) (by kernel_rfl) (by kernel_rfl)
  have tT := eTypeOfS
  have cT := eComparable
  have mR := eMethodComparable
  have heq := run_eql_iface_ptr_same (P := Tryd.prog) w a Tryd.underlying44 Tryd.underlying149 hi hcmp hj
  go_enter Tryd.func63, Tryd.ntmps63
  go_wp2
  refine wp_loop_rounds 1 ?_
  rw [rounds_succ]
  go_wp2
  go_ret
  exact ⟨rfl, rfl⟩

set_option maxHeartbeats 1000000 in
theorem is_other (a b : Addr) (ca cb : Array Value) (ta tb : TypeId) (w : World) (hne : a ≠ b) (ha : w.heap[a.block]? = some (.cells ca ta (0, 0))) (hb : w.heap[b.block]? = some (.cells cb tb (0, 0))) :
    Calls Tryd.prog 63 #[.iface 149 (.pointer (some a)), .iface 149 (.pointer (some b))] w fun e w' => e = .returned (.bool false) ∧ w = w' := by
  obtain ⟨i, hi, hcmp⟩ := Option.map_eq_some_iff.1 eComp
  obtain ⟨j, hj, hjs⟩ := Option.map_eq_some_iff.1 eSize
  have h8 := @run_callFunc_extern Tryd.prog 71 _ ReflectliteType.typeOf Tryd.func71 (by kernel_rfl) (by kernel_rfl) (by kernel_rfl) (by kernel_rfl)
  have h32 := @run_callFunc_extern Tryd.prog 111 _ entComparable Tryd.func111 (by kernel_rfl) (by kernel_rfl) (by kernel_rfl) (by kernel_rfl)
  have tT := eTypeOfS
  have cT := eComparable
  have mR := eMethodComparable
  have nE := eNoIsS
  have uE := eNoUnwrapS
  have vE := eNoUnwrapsS
  have heq := run_eql_iface_ptr_other (P := Tryd.prog) w Tryd.underlying44 Tryd.underlying149 hi hcmp hj (by rw [hjs]; decide) hne ha hb
  clear ha hb hne
  go_enter Tryd.func63, Tryd.ntmps63
  go_wp2
  refine wp_loop_rounds 1 ?_
  rw [rounds_succ]
  go_wp2
  go_ret
  exact ⟨rfl, rfl⟩

set_option maxHeartbeats 1000000 in
theorem is_fault_same (p : Nat) (a : Addr) (w : World) (h1 : w.cell? ⟨p, 0, none⟩ = some (.iface 149 (.pointer (some a)))) :
    Calls Tryd.prog 63 #[.iface 94 (.pointer (some ⟨p, 0, none⟩)), .iface 149 (.pointer (some a))] w fun e w' => e = .returned (.bool true) ∧ w = w' := by
  obtain ⟨i, hi, hcmp⟩ := Option.map_eq_some_iff.1 eComp
  obtain ⟨j, hj, hjs⟩ := Option.map_eq_some_iff.1 eSize
  have h8 := @run_callFunc_extern Tryd.prog 71 _ ReflectliteType.typeOf Tryd.func71 (by kernel_rfl) (by kernel_rfl) (by kernel_rfl) (by kernel_rfl)
  have h32 := @run_callFunc_extern Tryd.prog 111 _ entComparable Tryd.func111 (by kernel_rfl) (by kernel_rfl) (by kernel_rfl) (by kernel_rfl)
  have tT := eTypeOfS
  have cT := eComparable
  have mR := eMethodComparable
  have nW := eNoIsF
  have uW := eHasUnwrapF
  have mU := eMethodUnwrap
  have hun := run_eql_iface_types (P := Tryd.prog) 94 149 (.pointer (some ⟨p, 0, none⟩)) (.pointer (some a)) Tryd.underlying44 (by decide) w
  have heq := run_eql_iface_ptr_same (P := Tryd.prog) w a Tryd.underlying44 Tryd.underlying149 hi hcmp hj
  go_enter Tryd.func63, Tryd.ntmps63
  go_wp2
  refine wp_loop_rounds 2 ?_
  rw [rounds_succ]
  go_wp2
  rw [rounds_succ]
  go_wp2
  go_ret
  exact ⟨rfl, rfl⟩

set_option maxHeartbeats 1000000 in
theorem is_fault_other (p : Nat) (a b : Addr) (ca cb : Array Value) (ta tb : TypeId) (w : World) (h1 : w.cell? ⟨p, 0, none⟩ = some (.iface 149 (.pointer (some a)))) (hne : a ≠ b) (ha : w.heap[a.block]? = some (.cells ca ta (0, 0))) (hb : w.heap[b.block]? = some (.cells cb tb (0, 0))) :
    Calls Tryd.prog 63 #[.iface 94 (.pointer (some ⟨p, 0, none⟩)), .iface 149 (.pointer (some b))] w fun e w' => e = .returned (.bool false) ∧ w = w' := by
  obtain ⟨i, hi, hcmp⟩ := Option.map_eq_some_iff.1 eComp
  obtain ⟨j, hj, hjs⟩ := Option.map_eq_some_iff.1 eSize
  have h8 := @run_callFunc_extern Tryd.prog 71 _ ReflectliteType.typeOf Tryd.func71 (by kernel_rfl) (by kernel_rfl) (by kernel_rfl) (by kernel_rfl)
  have h32 := @run_callFunc_extern Tryd.prog 111 _ entComparable Tryd.func111 (by kernel_rfl) (by kernel_rfl) (by kernel_rfl) (by kernel_rfl)
  have tT := eTypeOfS
  have cT := eComparable
  have mR := eMethodComparable
  have nE := eNoIsS
  have uE := eNoUnwrapS
  have vE := eNoUnwrapsS
  have nW := eNoIsF
  have uW := eHasUnwrapF
  have mU := eMethodUnwrap
  have hun := run_eql_iface_types (P := Tryd.prog) 94 149 (.pointer (some ⟨p, 0, none⟩)) (.pointer (some b)) Tryd.underlying44 (by decide) w
  have heq := run_eql_iface_ptr_other (P := Tryd.prog) w Tryd.underlying44 Tryd.underlying149 hi hcmp hj (by rw [hjs]; decide) hne ha hb
  clear ha hb hne
  go_enter Tryd.func63, Tryd.ntmps63
  go_wp2
  refine wp_loop_rounds 2 ?_
  rw [rounds_succ]
  go_wp2
  rw [rounds_succ]
  go_wp2
  go_ret
  exact ⟨rfl, rfl⟩
end Go.Proofs.YtkabomkikbdigaaDoor
