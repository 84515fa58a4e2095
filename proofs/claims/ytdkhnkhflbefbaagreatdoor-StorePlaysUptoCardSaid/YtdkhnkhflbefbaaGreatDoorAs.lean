/- errors.As at a target of type **api.Fault, by contracts: nil, a sentinel, a *Fault. Go's own text of errors.As and errors.as is walked; the model's entries for reflectlite by closed facts. -/
import Derived.Test.YtdkhnkhflbefbaaGreatDoorErr
namespace Go.Proofs.YtdkhnkhflbefbaaGreatDoor
open Go.RowKit Go.Extern.Stop Go.Stop Go.Extern

def entValueOf : Array Value → Sem Value := fun args => ReflectliteValue.unpack (args.getD 0 (.tuple #[]))
def entType : Array Value → Sem Value := ReflectliteValue.methodAny (ReflectliteValue.valueError "reflectlite.Value.Type" 0) (fun t _ _ _ => ReflectliteType.toType t)
def entIsNil : Array Value → Sem Value := ReflectliteValue.method (ReflectliteValue.valueError "reflectlite.Value.IsNil" 0) ReflectliteValue.isNil
def entElemV : Array Value → Sem Value := ReflectliteValue.method (ReflectliteValue.valueError "reflectlite.Value.Elem" 0) ReflectliteValue.elem
def entKind : Array Value → Sem Value := ReflectliteType.abiMethod fun t => do pure (.int .u8 (← Rtype.kind t))
def entElem : Array Value → Sem Value := ReflectliteType.method ReflectliteType.elem
def entImplements : Array Value → Sem Value := ReflectliteType.relation "Implements" ReflectliteType.implements_
def entAssignable : Array Value → Sem Value := ReflectliteType.relation "AssignableTo" ReflectliteType.assignableTo
def entSet : Array Value → Sem Value := ReflectliteValue.set

theorem aValueOfT (t : Addr) (w : World) : (entValueOf #[.iface 207 (.pointer (some t))]).run Tryz.prog w
    = .ok (.agg #[.pointer (some ⟨20, 207, none⟩), .pointer (some ⟨w.heap.size, 0, none⟩), .int .u64 150]) (w.alloc (.cells #[.pointer (some t)] 207)) := by kernel_rfl
theorem aTypeT (a : Addr) (w : World) : (entType #[.agg #[.pointer (some ⟨20, 207, none⟩), .pointer (some a), .int .u64 150]]).run Tryz.prog w
    = .ok (.iface 241 (.agg #[.pointer (some ⟨20, 207, none⟩)])) w := by kernel_rfl
theorem aMethodKind (h : Value) (w : World) : (Go.method 405 241 (.agg #[h]) "Kind").run Tryz.prog w = .ok (183, h) w := by kernel_rfl
theorem aKindT (w : World) : (entKind #[.pointer (some ⟨20, 207, none⟩)]).run Tryz.prog w = .ok (.int .u8 22) w := by kernel_rfl
theorem aKindF (w : World) : (entKind #[.pointer (some ⟨20, 205, none⟩)]).run Tryz.prog w = .ok (.int .u8 22) w := by kernel_rfl
theorem aRlm (z : Sem Value) (f : TypeId → Addr → Nat → Nat → Sem Value) (v : Value) :
    ReflectliteValue.method z f #[v] = (do match ← ReflectliteValue.parts v with | none => z | some (t, a, fl) => f t a fl (fl % 32)) := rfl
theorem aPartsT (a : Addr) (w : World) : (ReflectliteValue.parts (.agg #[.pointer (some ⟨20, 207, none⟩), .pointer (some a), .int .u64 150])).run Tryz.prog w = .ok (some (207, a, 150)) w := by kernel_rfl
theorem aIsNilT (a p : Addr) (W : World) (ha : W.cell? a = some (.pointer (some p))) :
    (entIsNil #[.agg #[.pointer (some ⟨20, 207, none⟩), .pointer (some a), .int .u64 150]]).run Tryz.prog W = .ok (.bool false) W := by
  rw [entIsNil, aRlm]
  simp only [Sem.run_bind, aPartsT, Result.andThen]
  simp [ReflectliteValue.isNil, loadVar, isAgg, underlying, Tryz.underlying207, ha, Result.andThen]
theorem aMethodElem (h : Value) (w : World) : (Go.method 405 241 (.agg #[h]) "Elem").run Tryz.prog w = .ok (194, .agg #[h]) w := by kernel_rfl
theorem aMethodImplements (h : Value) (w : World) : (Go.method 405 241 (.agg #[h]) "Implements").run Tryz.prog w = .ok (195, .agg #[h]) w := by kernel_rfl
theorem aMethodAssignable (h : Value) (w : World) : (Go.method 405 241 (.agg #[h]) "AssignableTo").run Tryz.prog w = .ok (192, .agg #[h]) w := by kernel_rfl
theorem aElemT (w : World) : (entElem #[.agg #[.pointer (some ⟨20, 207, none⟩)]]).run Tryz.prog w = .ok (.iface 241 (.agg #[.pointer (some ⟨20, 205, none⟩)])) w := by kernel_rfl
theorem aImplementsF (w : World) : (entImplements #[.agg #[.pointer (some ⟨20, 205, none⟩)], .iface 241 (.agg #[.pointer (some ⟨20, 30, none⟩)])]).run Tryz.prog w = .ok (.bool true) w := by kernel_rfl
theorem aAssignFF (w : World) : (entAssignable #[.agg #[.pointer (some ⟨20, 205, none⟩)], .iface 241 (.agg #[.pointer (some ⟨20, 205, none⟩)])]).run Tryz.prog w = .ok (.bool true) w := by kernel_rfl
theorem aAssignSF (w : World) : (entAssignable #[.agg #[.pointer (some ⟨20, 273, none⟩)], .iface 241 (.agg #[.pointer (some ⟨20, 205, none⟩)])]).run Tryz.prog w = .ok (.bool false) w := by kernel_rfl
theorem aValueOfF (e : Addr) (w : World) : (entValueOf #[.iface 205 (.pointer (some e))]).run Tryz.prog w
    = .ok (.agg #[.pointer (some ⟨20, 205, none⟩), .pointer (some ⟨w.heap.size, 0, none⟩), .int .u64 150]) (w.alloc (.cells #[.pointer (some e)] 205)) := by kernel_rfl
theorem aElemOfT (w : World) : (Rtype.elem? 207).run Tryz.prog w = .ok (some 205) w := by kernel_rfl
theorem aMkF (p : Addr) (w : World) : (ReflectliteValue.mk 205 p ReflectliteValue.flagAddr).run Tryz.prog w = .ok (.agg #[.pointer (some ⟨20, 205, none⟩), .pointer (some p), .int .u64 406]) w := by kernel_rfl
theorem aElemVT (a p : Addr) (W : World) (ha : W.cell? a = some (.pointer (some p))) :
    (entElemV #[.agg #[.pointer (some ⟨20, 207, none⟩), .pointer (some a), .int .u64 150]]).run Tryz.prog W
      = .ok (.agg #[.pointer (some ⟨20, 205, none⟩), .pointer (some p), .int .u64 406]) W := by
  rw [entElemV, aRlm]
  simp only [Sem.run_bind, aPartsT, Result.andThen]
  simp [ReflectliteValue.elem, loadVar, isAgg, underlying, Tryz.underlying207, ha, Result.andThen, aElemOfT, aMkF]
theorem aRls (v x : Value) : ReflectliteValue.set #[v, x] = (do
    let (some (dst, a, fl), some (src, b, _)) := (← ReflectliteValue.parts v, ← ReflectliteValue.parts x)
      | unsupported (.noEntry "extern/(internal/reflectlite.Value).Set.zeroValue")
    if fl / ReflectliteValue.flagAddr % 2 == 0 then unsupported (.noEntry "extern/(internal/reflectlite.Value).Set.unaddressable")
    let val ← loadVar src b
    if ← Rtype.directlyAssignable dst src then storeVar dst a val
    else if ← Rtype.implements dst src then
      if (← Rtype.kind src) == 20 then
        match val with
        | .nilIface => unsupported (.noEntry "extern/reflectlite: a nil value of one interface type handed on as a value of another")
        | _ => storeVar dst a val
      else storeVar dst a (.iface src val)
    else panicString ("reflectlite.Set: value of type " ++ (← Rtype.spelt src) ++ " is not assignable to type " ++ (← Rtype.spelt dst))
    pure (.tuple #[])) := rfl
theorem aPartsFa (a : Addr) (w : World) : (ReflectliteValue.parts (.agg #[.pointer (some ⟨20, 205, none⟩), .pointer (some a), .int .u64 406])).run Tryz.prog w = .ok (some (205, a, 406)) w := by kernel_rfl
theorem aPartsF (a : Addr) (w : World) : (ReflectliteValue.parts (.agg #[.pointer (some ⟨20, 205, none⟩), .pointer (some a), .int .u64 150])).run Tryz.prog w = .ok (some (205, a, 150)) w := by kernel_rfl
theorem aDirectF (w : World) : (Rtype.directlyAssignable 205 205).run Tryz.prog w = .ok true w := by kernel_rfl
theorem aSetF (ta b e : Addr) (old : Value) (W : World) (hb : W.cell? b = some (.pointer (some e))) (ht : W.cell? ta = some old) (hf : W.frozen? ta = false) :
    (entSet #[.agg #[.pointer (some ⟨20, 205, none⟩), .pointer (some ta), .int .u64 406], .agg #[.pointer (some ⟨20, 205, none⟩), .pointer (some b), .int .u64 150]]).run Tryz.prog W
      = .ok (.tuple #[]) (W.setCell ta (.pointer (some e))) := by
  rw [entSet, aRls]
  simp only [Sem.run_bind, aPartsFa, aPartsF, Result.andThen]
  simp [ReflectliteValue.flagAddr, loadVar, isAgg, underlying, Tryz.underlying205, hb, Result.andThen, aDirectF, storeVar, Value.cells, storeCells, Addr.add]
  rw [run_store Tryz.prog W ta _ _ (by rfl)]
  simp [ht, hf]

theorem as_nil (t : Value) (w : World) :
    Calls Tryz.prog 125 #[.nilIface, t] w fun e w' => e = .returned (.bool false) ∧ w = w' := by
  go_enter Tryz.func125, Tryz.ntmps125
  go_wp2
  go_ret
  exact ⟨rfl, rfl⟩

set_option maxHeartbeats 4000000 in
theorem as_hit (e t : Addr) (old : Value) (w : World) (hg : w.cell? ⟨16, 0, none⟩ = some (.iface 241 (.agg #[.pointer (some ⟨20, 30, none⟩)]))) (ht0 : w.cell? t = some old) (hf0 : w.frozen? t = false) :
    Calls Tryz.prog 125 #[.iface 205 (.pointer (some e)), .iface 207 (.pointer (some t))] w fun ev w' => ev = .returned (.bool true) ∧
      w' = ((((w.alloc (.cells #[.pointer (some t)] 207)).alloc (.cells #[.pointer (some ⟨20, 207, none⟩), .pointer (some ⟨w.heap.size, 0, none⟩), .int .u64 150] 218)).alloc (.cells #[.pointer (some ⟨20, 207, none⟩), .pointer (some ⟨w.heap.size, 0, none⟩), .int .u64 150] 218)).alloc (.cells #[.pointer (some e)] 205)).setCell t (.pointer (some e)) := by
  have h6 := @run_callFunc_extern Tryz.prog 130 _ entValueOf Tryz.func130 (by kernel_rfl) (by kernel_rfl) (by kernel_rfl) (by kernel_rfl)
  have h7 := @run_callFunc_extern Tryz.prog 131 _ entType Tryz.func131 (by kernel_rfl) (by kernel_rfl) (by kernel_rfl) (by kernel_rfl)
  have h8 := @run_callFunc_extern Tryz.prog 132 _ entIsNil Tryz.func132 (by kernel_rfl) (by kernel_rfl) (by kernel_rfl) (by kernel_rfl)
  have h27 := @run_callFunc_extern Tryz.prog 183 _ entKind Tryz.func183 (by kernel_rfl) (by kernel_rfl) (by kernel_rfl) (by kernel_rfl)
  have h37 := @run_callFunc_extern Tryz.prog 194 _ entElem Tryz.func194 (by kernel_rfl) (by kernel_rfl) (by kernel_rfl) (by kernel_rfl)
  have h38 := @run_callFunc_extern Tryz.prog 195 _ entImplements Tryz.func195 (by kernel_rfl) (by kernel_rfl) (by kernel_rfl) (by kernel_rfl)
  have h10 := @run_callFunc_extern Tryz.prog 134 _ ReflectliteType.typeOf Tryz.func134 (by kernel_rfl) (by kernel_rfl) (by kernel_rfl) (by kernel_rfl)
  have h35 := @run_callFunc_extern Tryz.prog 192 _ entAssignable Tryz.func192 (by kernel_rfl) (by kernel_rfl) (by kernel_rfl) (by kernel_rfl)
  have h11 := @run_callFunc_extern Tryz.prog 148 _ entElemV Tryz.func148 (by kernel_rfl) (by kernel_rfl) (by kernel_rfl) (by kernel_rfl)
  have h12 := @run_callFunc_extern Tryz.prog 149 _ entSet Tryz.func149 (by kernel_rfl) (by kernel_rfl) (by kernel_rfl) (by kernel_rfl)
  have tO := eTypeOfF
  have mA := aMethodAssignable
  have a25 := aAssignFF
  have v25 := aValueOfF
  have f6 := aValueOfT
  have f7 := aTypeT
  have mK := aMethodKind
  have mE := aMethodElem
  have mI := aMethodImplements
  have k27 := aKindT
  have k25 := aKindF
  have e27 := aElemT
  have i25 := aImplementsF
  have n8 := aIsNilT ⟨w.heap.size, 0, none⟩ t ((w.alloc (.cells #[.pointer (some t)] 207)).alloc (.cells #[.pointer (some ⟨20, 207, none⟩), .pointer (some ⟨w.heap.size, 0, none⟩), .int .u64 150] 218)) (by simp)
  have hlt : 16 < w.heap.size := lt_of_cell hg
  have hg2 : ((w.alloc (.cells #[.pointer (some t)] 207)).alloc (.cells #[.pointer (some ⟨20, 207, none⟩), .pointer (some ⟨w.heap.size, 0, none⟩), .int .u64 150] 218)).cell? ⟨16, 0, none⟩ = some (.iface 241 (.agg #[.pointer (some ⟨20, 30, none⟩)])) := by
    rw [World.cell?_alloc_lt _ _ ⟨16, 0, none⟩ (by simp; omega), World.cell?_alloc_lt _ _ ⟨16, 0, none⟩ hlt]; exact hg
  have htl : t.block < w.heap.size := lt_of_cell ht0
  have el := aElemVT ⟨w.heap.size, 0, none⟩ t (((w.alloc (.cells #[.pointer (some t)] 207)).alloc (.cells #[.pointer (some ⟨20, 207, none⟩), .pointer (some ⟨w.heap.size, 0, none⟩), .int .u64 150] 218)).alloc (.cells #[.pointer (some ⟨20, 207, none⟩), .pointer (some ⟨w.heap.size, 0, none⟩), .int .u64 150] 218)) (by rw [World.cell?_alloc_lt _ _ ⟨w.heap.size, 0, none⟩ (by simp; omega)]; simp)
  have st := aSetF t ⟨w.heap.size + 1 + 1 + 1, 0, none⟩ e old ((((w.alloc (.cells #[.pointer (some t)] 207)).alloc (.cells #[.pointer (some ⟨20, 207, none⟩), .pointer (some ⟨w.heap.size, 0, none⟩), .int .u64 150] 218)).alloc (.cells #[.pointer (some ⟨20, 207, none⟩), .pointer (some ⟨w.heap.size, 0, none⟩), .int .u64 150] 218)).alloc (.cells #[.pointer (some e)] 205))
    (by rw [World.cell?_alloc_at _ _ _ _ (by simp)]; rfl)
    (by rw [World.cell?_alloc_lt _ _ t (by simp; omega), World.cell?_alloc_lt _ _ t (by simp; omega), World.cell?_alloc_lt _ _ t (by simp; omega), World.cell?_alloc_lt _ _ t htl]; exact ht0)
    (by rw [World.frozen?_alloc_old _ _ t (by simp; omega), World.frozen?_alloc_old _ _ t (by simp; omega), World.frozen?_alloc_old _ _ t (by simp; omega), World.frozen?_alloc_old _ _ t (Nat.ne_of_lt htl)]; exact hf0)
  go_enter Tryz.func125, Tryz.ntmps125
  go_wp2
  refine wp_loop_rounds 1 ?_
  rw [rounds_succ]
  go_wp2
  go_ret
  exact ⟨rfl, rfl⟩

set_option maxHeartbeats 4000000 in
theorem as_miss (e t : Addr) (old : Value) (w : World) (hg : w.cell? ⟨16, 0, none⟩ = some (.iface 241 (.agg #[.pointer (some ⟨20, 30, none⟩)]))) (_ht0 : w.cell? t = some old) :
    Calls Tryz.prog 125 #[.iface 273 (.pointer (some e)), .iface 207 (.pointer (some t))] w fun ev w' => ev = .returned (.bool false) ∧ Ext w w' := by
  have h6 := @run_callFunc_extern Tryz.prog 130 _ entValueOf Tryz.func130 (by kernel_rfl) (by kernel_rfl) (by kernel_rfl) (by kernel_rfl)
  have h7 := @run_callFunc_extern Tryz.prog 131 _ entType Tryz.func131 (by kernel_rfl) (by kernel_rfl) (by kernel_rfl) (by kernel_rfl)
  have h8 := @run_callFunc_extern Tryz.prog 132 _ entIsNil Tryz.func132 (by kernel_rfl) (by kernel_rfl) (by kernel_rfl) (by kernel_rfl)
  have h27 := @run_callFunc_extern Tryz.prog 183 _ entKind Tryz.func183 (by kernel_rfl) (by kernel_rfl) (by kernel_rfl) (by kernel_rfl)
  have h37 := @run_callFunc_extern Tryz.prog 194 _ entElem Tryz.func194 (by kernel_rfl) (by kernel_rfl) (by kernel_rfl) (by kernel_rfl)
  have h38 := @run_callFunc_extern Tryz.prog 195 _ entImplements Tryz.func195 (by kernel_rfl) (by kernel_rfl) (by kernel_rfl) (by kernel_rfl)
  have h10 := @run_callFunc_extern Tryz.prog 134 _ ReflectliteType.typeOf Tryz.func134 (by kernel_rfl) (by kernel_rfl) (by kernel_rfl) (by kernel_rfl)
  have h35 := @run_callFunc_extern Tryz.prog 192 _ entAssignable Tryz.func192 (by kernel_rfl) (by kernel_rfl) (by kernel_rfl) (by kernel_rfl)
  have tO := eTypeOfS
  have mA := aMethodAssignable
  have a25 := aAssignSF
  have f6 := aValueOfT
  have f7 := aTypeT
  have mK := aMethodKind
  have mE := aMethodElem
  have mI := aMethodImplements
  have k27 := aKindT
  have k25 := aKindF
  have e27 := aElemT
  have i25 := aImplementsF
  have nA := eNoAsS
  have uE := eNoUnwrapS
  have vE := eNoUnwrapsS
  have n8 := aIsNilT ⟨w.heap.size, 0, none⟩ t ((w.alloc (.cells #[.pointer (some t)] 207)).alloc (.cells #[.pointer (some ⟨20, 207, none⟩), .pointer (some ⟨w.heap.size, 0, none⟩), .int .u64 150] 218)) (by simp)
  have hlt : 16 < w.heap.size := lt_of_cell hg
  have hg2 : ((w.alloc (.cells #[.pointer (some t)] 207)).alloc (.cells #[.pointer (some ⟨20, 207, none⟩), .pointer (some ⟨w.heap.size, 0, none⟩), .int .u64 150] 218)).cell? ⟨16, 0, none⟩ = some (.iface 241 (.agg #[.pointer (some ⟨20, 30, none⟩)])) := by
    rw [World.cell?_alloc_lt _ _ ⟨16, 0, none⟩ (by simp; omega), World.cell?_alloc_lt _ _ ⟨16, 0, none⟩ hlt]; exact hg
  go_enter Tryz.func125, Tryz.ntmps125
  go_wp2
  refine wp_loop_rounds 1 ?_
  rw [rounds_succ]
  go_wp2
  go_ret
  exact ⟨rfl, (((Upd.refl _ _).alloc _).alloc _).alloc _⟩
end Go.Proofs.YtdkhnkhflbefbaaGreatDoor
