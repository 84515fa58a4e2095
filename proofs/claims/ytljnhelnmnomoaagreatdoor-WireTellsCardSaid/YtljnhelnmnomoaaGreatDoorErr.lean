/- The errors of package api: errors.Is at the sixteen sentinels, errors.As at *api.Fault, and the statements' Code, At, Is, IsAt, Same, by contracts. Go's own text of errors.Is, is, As, as is walked. -/
import Derived.Test.YtljnhelnmnomoaaGreatDoorBase
namespace Go.Proofs.YtljnhelnmnomoaaGreatDoor
open Go.RowKit Go.Extern.Stop Go.Stop Go.Extern

/-! ### closed facts on the model's entries for reflectlite at this program's types -/
theorem eTypeOfS (v : Value) (w : World) : (ReflectliteType.typeOf #[.iface 292 v]).run Tryz.prog w = .ok (.iface 264 (.agg #[.pointer (some ⟨21, 292, none⟩)])) w := by kernel_rfl
theorem eTypeOfF (v : Value) (w : World) : (ReflectliteType.typeOf #[.iface 141 v]).run Tryz.prog w = .ok (.iface 264 (.agg #[.pointer (some ⟨21, 141, none⟩)])) w := by kernel_rfl
/-- The model's entry for (rtype).Comparable, behind a name. -/
def entComparable : Array Value → Sem Value := ReflectliteType.method fun t => do Rtype.noPackHeld "Comparable" t; pure (.bool (← typeInfo t).comparable)
theorem eComparable (w : World) : (entComparable #[.agg #[.pointer (some ⟨21, 292, none⟩)]]).run Tryz.prog w = .ok (.bool true) w := by kernel_rfl
theorem eMethodComparable (v : Value) (w : World) : (Go.method 423 264 v "Comparable").run Tryz.prog w = .ok (211, v) w := by kernel_rfl
theorem eComp : (Tryz.prog.info? 292).map (·.comparable) = some true := by kernel_rfl
theorem eSize : (Tryz.prog.info? 311).map (·.size) = some 1 := by kernel_rfl
theorem eNoIsS (v : Value) (xT : TypeId) (w : World) : (Instr.typeAssert (.iface 292 v) xT 275 true).run Tryz.prog w = .ok (.tuple #[.nilIface, .bool false]) w := run_typeAssert_lacksB Tryz.underlying275 (by kernel_rfl) (by kernel_rfl) v xT w
theorem eNoUnwrapS (v : Value) (xT : TypeId) (w : World) : (Instr.typeAssert (.iface 292 v) xT 271 true).run Tryz.prog w = .ok (.tuple #[.nilIface, .bool false]) w := run_typeAssert_lacksB Tryz.underlying271 (by kernel_rfl) (by kernel_rfl) v xT w
theorem eNoUnwrapsS (v : Value) (xT : TypeId) (w : World) : (Instr.typeAssert (.iface 292 v) xT 272 true).run Tryz.prog w = .ok (.tuple #[.nilIface, .bool false]) w := run_typeAssert_lacksB Tryz.underlying272 (by kernel_rfl) (by kernel_rfl) v xT w
theorem eNoAsS (v : Value) (xT : TypeId) (w : World) : (Instr.typeAssert (.iface 292 v) xT 268 true).run Tryz.prog w = .ok (.tuple #[.nilIface, .bool false]) w := run_typeAssert_lacksB Tryz.underlying268 (by kernel_rfl) (by kernel_rfl) v xT w
theorem eNoIsF (v : Value) (xT : TypeId) (w : World) : (Instr.typeAssert (.iface 141 v) xT 275 true).run Tryz.prog w = .ok (.tuple #[.nilIface, .bool false]) w := run_typeAssert_lacksB Tryz.underlying275 (by kernel_rfl) (by kernel_rfl) v xT w
theorem eHasUnwrapF (v : Value) (xT : TypeId) (w : World) : (Instr.typeAssert (.iface 141 v) xT 271 true).run Tryz.prog w = .ok (.tuple #[.iface 141 v, .bool true]) w := run_typeAssert_hasB Tryz.underlying271 (by kernel_rfl) v xT w
theorem eMethodUnwrap (v : Value) (w : World) : (Go.method 423 141 v "Unwrap").run Tryz.prog w = .ok (205, v) w := by kernel_rfl

/-- (*Fault).Unwrap. -/
theorem unwrap_any (b : Nat) (v : Value) (w : World) (h : w.cell? ⟨b, 0, none⟩ = some v) :
    Calls Tryz.prog 205 #[.pointer (some ⟨b, 0, none⟩)] w fun e w' => e = .returned v ∧ w = w' := by
  go_enter Tryz.func205, Tryz.ntmps205
  go_wp2
  go_ret
  exact ⟨rfl, rfl⟩

theorem is_nil (b : Addr) (w : World) :
    Calls Tryz.prog 163 #[.nilIface, .iface 292 (.pointer (some b))] w fun e w' => e = .returned (.bool false) ∧ w = w' := by
  have hn := run_eql_iface_nil_left (P := Tryz.prog) w 292 (.pointer (some b)) Tryz.underlying32
  go_enter Tryz.func163, Tryz.ntmps163
  go_wp2
  go_ret
  exact ⟨rfl, rfl⟩

set_option maxHeartbeats 1000000 in
theorem is_same (a : Addr) (w : World) :
    Calls Tryz.prog 163 #[.iface 292 (.pointer (some a)), .iface 292 (.pointer (some a))] w fun e w' => e = .returned (.bool true) ∧ w = w' := by
  obtain ⟨i, hi, hcmp⟩ := Option.map_eq_some_iff.1 eComp
  obtain ⟨j, hj, hjs⟩ := Option.map_eq_some_iff.1 eSize
  have h8 := @run_callFunc_extern Tryz.prog 169 _ ReflectliteType.typeOf Tryz.func169 (by kernel_rfl) (by kernel_rfl) (by kernel_rfl) (by kernel_rfl)
  have h32 := @run_callFunc_extern Tryz.prog 211 _ entComparable Tryz.func211 (by kernel_rfl) (by kernel_rfl) (by kernel_rfl) (by kernel_rfl)
  have tT := eTypeOfS
  have cT := eComparable
  have mR := eMethodComparable
  have heq := run_eql_iface_ptr_same (P := Tryz.prog) w a Tryz.underlying32 Tryz.underlying292 hi hcmp hj
  go_enter Tryz.func163, Tryz.ntmps163
  go_wp2
  refine wp_loop_rounds 1 ?_
  rw [rounds_succ]
  go_wp2
  go_ret
  exact ⟨rfl, rfl⟩

set_option maxHeartbeats 1000000 in
theorem is_other (a b : Addr) (ca cb : Array Value) (ta tb : TypeId) (w : World) (hne : a ≠ b) (ha : w.heap[a.block]? = some (.cells ca ta (0, 0))) (hb : w.heap[b.block]? = some (.cells cb tb (0, 0))) :
    Calls Tryz.prog 163 #[.iface 292 (.pointer (some a)), .iface 292 (.pointer (some b))] w fun e w' => e = .returned (.bool false) ∧ w = w' := by
  obtain ⟨i, hi, hcmp⟩ := Option.map_eq_some_iff.1 eComp
  obtain ⟨j, hj, hjs⟩ := Option.map_eq_some_iff.1 eSize
  have h8 := @run_callFunc_extern Tryz.prog 169 _ ReflectliteType.typeOf Tryz.func169 (by kernel_rfl) (by kernel_rfl) (by kernel_rfl) (by kernel_rfl)
  have h32 := @run_callFunc_extern Tryz.prog 211 _ entComparable Tryz.func211 (by kernel_rfl) (by kernel_rfl) (by kernel_rfl) (by kernel_rfl)
  have tT := eTypeOfS
  have cT := eComparable
  have mR := eMethodComparable
  have nE := eNoIsS
  have uE := eNoUnwrapS
  have vE := eNoUnwrapsS
  have heq := run_eql_iface_ptr_other (P := Tryz.prog) w Tryz.underlying32 Tryz.underlying292 hi hcmp hj (by rw [hjs]; decide) hne ha hb
  clear ha hb hne
  go_enter Tryz.func163, Tryz.ntmps163
  go_wp2
  refine wp_loop_rounds 1 ?_
  rw [rounds_succ]
  go_wp2
  go_ret
  exact ⟨rfl, rfl⟩

set_option maxHeartbeats 1000000 in
theorem is_fault_same (p : Nat) (a : Addr) (w : World) (h1 : w.cell? ⟨p, 0, none⟩ = some (.iface 292 (.pointer (some a)))) :
    Calls Tryz.prog 163 #[.iface 141 (.pointer (some ⟨p, 0, none⟩)), .iface 292 (.pointer (some a))] w fun e w' => e = .returned (.bool true) ∧ w = w' := by
  obtain ⟨i, hi, hcmp⟩ := Option.map_eq_some_iff.1 eComp
  obtain ⟨j, hj, hjs⟩ := Option.map_eq_some_iff.1 eSize
  have h8 := @run_callFunc_extern Tryz.prog 169 _ ReflectliteType.typeOf Tryz.func169 (by kernel_rfl) (by kernel_rfl) (by kernel_rfl) (by kernel_rfl)
  have h32 := @run_callFunc_extern Tryz.prog 211 _ entComparable Tryz.func211 (by kernel_rfl) (by kernel_rfl) (by kernel_rfl) (by kernel_rfl)
  have tT := eTypeOfS
  have cT := eComparable
  have mR := eMethodComparable
  have nW := eNoIsF
  have uW := eHasUnwrapF
  have mU := eMethodUnwrap
  have hun := run_eql_iface_types (P := Tryz.prog) 141 292 (.pointer (some ⟨p, 0, none⟩)) (.pointer (some a)) Tryz.underlying32 (by decide) w
  have heq := run_eql_iface_ptr_same (P := Tryz.prog) w a Tryz.underlying32 Tryz.underlying292 hi hcmp hj
  go_enter Tryz.func163, Tryz.ntmps163
  go_wp2
  refine wp_loop_rounds 2 ?_
  rw [rounds_succ]
  go_wp2
  rw [rounds_succ]
  go_wp2
  go_ret
  exact ⟨rfl, rfl⟩

set_option maxHeartbeats 1000000 in
theorem is_fault_other (p : Nat) (a b : Addr) (ca cb : Array Value) (ta tb : TypeId) (w : World) (h1 : w.cell? ⟨p, 0, none⟩ = some (.iface 292 (.pointer (some a)))) (hne : a ≠ b) (ha : w.heap[a.block]? = some (.cells ca ta (0, 0))) (hb : w.heap[b.block]? = some (.cells cb tb (0, 0))) :
    Calls Tryz.prog 163 #[.iface 141 (.pointer (some ⟨p, 0, none⟩)), .iface 292 (.pointer (some b))] w fun e w' => e = .returned (.bool false) ∧ w = w' := by
  obtain ⟨i, hi, hcmp⟩ := Option.map_eq_some_iff.1 eComp
  obtain ⟨j, hj, hjs⟩ := Option.map_eq_some_iff.1 eSize
  have h8 := @run_callFunc_extern Tryz.prog 169 _ ReflectliteType.typeOf Tryz.func169 (by kernel_rfl) (by kernel_rfl) (by kernel_rfl) (by kernel_rfl)
  have h32 := @run_callFunc_extern Tryz.prog 211 _ entComparable Tryz.func211 (by kernel_rfl) (by kernel_rfl) (by kernel_rfl) (by kernel_rfl)
  have tT := eTypeOfS
  have cT := eComparable
  have mR := eMethodComparable
  have nE := eNoIsS
  have uE := eNoUnwrapS
  have vE := eNoUnwrapsS
  have nW := eNoIsF
  have uW := eHasUnwrapF
  have mU := eMethodUnwrap
  have hun := run_eql_iface_types (P := Tryz.prog) 141 292 (.pointer (some ⟨p, 0, none⟩)) (.pointer (some b)) Tryz.underlying32 (by decide) w
  have heq := run_eql_iface_ptr_other (P := Tryz.prog) w Tryz.underlying32 Tryz.underlying292 hi hcmp hj (by rw [hjs]; decide) hne ha hb
  clear ha hb hne
  go_enter Tryz.func163, Tryz.ntmps163
  go_wp2
  refine wp_loop_rounds 2 ?_
  rw [rounds_succ]
  go_wp2
  rw [rounds_succ]
  go_wp2
  go_ret
  exact ⟨rfl, rfl⟩
end Go.Proofs.YtljnhelnmnomoaaGreatDoor
