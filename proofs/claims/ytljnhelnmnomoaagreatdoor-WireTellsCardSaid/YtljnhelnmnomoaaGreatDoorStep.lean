/- Laws for one step of a region that draws its order: a call of a function by its contract, a copy of a string into an array of the call's own. Nothing of the program. -/
import Derived.Test.YtljnhelnmnomoaaGreatDoorAgg
import Derived.Deep.RegionLaw
namespace Go.Proofs.YtljnhelnmnomoaaGreatDoor
open Go.RowKit Go.Lib

section
variable {P : Program}
/-- Is there such a function, and has it a body? -/
def hasBody (P : Program) (f : FuncId) : Bool := match P.funcs[f]? with | some fn => fn.body.isSome && !(fn.name == "runtime.NumGoroutine") | none => false
theorem run_callFunc_body (w : World) (f : FuncId) (args : Array Value) (h : hasBody P f = true) : (callFunc f args).run P w = .ok (.enter f args) w := by
  unfold hasBody at h
  cases hf : P.funcs[f]? with
  | none => rw [hf] at h; cases h
  | some fn =>
    rw [hf] at h
    simp only [Bool.and_eq_true, Bool.not_eq_true'] at h
    obtain ⟨hb, hn⟩ := h
    have hb' : fn.body ≠ none := by intro e; rw [e] at hb; cases hb
    have hn' : fn.name ≠ "runtime.NumGoroutine" := by simpa using hn
    simp [callFunc, hf, hn', hb']
theorem step_call {ops : Array Oper} {o : Oper} {a : Act} {w : World} {K : Act → World → Prop} {Q : Exit → Act → World → Prop} {E : Prop} (hw : Region.wanted o (yielded ops a.tmps) = true) (f : FuncId) (args : List Operand) (ts : Array TypeId)
    (ho : o.op = .call { callee := .value (.func f), args := args.toArray, argTypes := ts }) (hb : hasBody P f = true) (vals : List Value) (hv : args.map a.eval = vals) {R : Value → World → Prop}
    (C : Calls P f vals.toArray w fun e w' => ∃ v, e = .returned v ∧ R v w') (h : ∀ v w', R v w' → K (a.put o.dst v) w') :
    if Region.wanted o (yielded ops a.tmps) = true then Oper.wp P o a w K Q else E := by
  rw [if_pos hw]
  subst hv
  unfold Oper.wp
  have hr : (execOp a.eval o).run P w = .ok (.enter f (args.map a.eval).toArray) w := by
    simp [execOp, ho, resolve, Deferred.ofValue, Act.eval, invoke]
    exact run_callFunc_body w f _ hb
  rw [hr]
  exact C.mono fun e w' ⟨v, he, hR⟩ => by subst he; exact h v w' hR
theorem step_copyStr {ops : Array Oper} {o : Oper} {a : Act} {w : World} {K : Act → World → Prop} {Q : Exit → Act → World → Prop} {E : Prop} (hw : Region.wanted o (yielded ops a.tmps) = true) (d s : Operand) (dT sT elem : TypeId)
    (ho : o.op = .call { callee := .builtin .copy, args := #[d, s], argTypes := #[dT, sT] }) (hu : P.underlying dT = some (.slice elem)) (hsz : (P.info? elem).map (·.size) = some 1)
    (g dLen dCap : Nat) (hd : a.eval d = .slice (some ⟨g, 0, none⟩) dLen dCap) (l : List UInt8) (hs : a.eval s = .string ⟨l.toArray⟩) (hl : l.length ≤ dLen)
    (cs : List Value) (t : TypeId) (hg : w.heap[g]? = some (.cells cs.toArray t (0, 0))) (hfit : l.length ≤ cs.length)
    (h : K (a.put o.dst (goInt l.length)) (w.setRow g (over cs 0 (l.map fun c => .int .u8 (c.toNat : Int))).toArray)) :
    if Region.wanted o (yielded ops a.tmps) = true then Oper.wp P o a w K Q else E := by
  rw [if_pos hw]
  have hst := run_storeCells_at P g 0 t (l.map fun c => Value.int .u8 (c.toNat : Int)) 0 cs.toArray w hg (by simpa using hfit) (by intro u hu; obtain ⟨x, _, rfl⟩ := List.mem_map.1 hu; rfl)
  cases hq : P.info? elem with
  | none => simp [hq] at hsz
  | some i =>
    have his : i.size = 1 := by simpa [hq] using hsz
    have hsl : (ByteArray.mk l.toArray).size = l.length := by simp [ByteArray.size]
    have hf : (Builtin.firstCells 1 l.length (.string ⟨l.toArray⟩)).run P w = .ok (l.map fun c => Value.int .u8 (c.toNat : Int)).toArray w := by
      simp [Builtin.firstCells]
    have hmin : l.length.min dLen = l.length := Nat.min_eq_left hl
    unfold Oper.wp
    have hst2 : (storeCells ⟨g, 0, none⟩ (l.map fun c => Value.int .u8 (c.toNat : Int))).run P w = .ok () (w.setRow g (over cs 0 (l.map fun c => Value.int .u8 (c.toNat : Int))).toArray) := by
      rw [hst]; simp [over]
    simp [execOp, ho, hd, hs, resolve, invoke, builtin, Builtin.copy_, run_underlying hu, Builtin.lenOf, hsl, sizeOf, typeInfo, hq, his, hmin, hf, hst2]
    exact h
end
end Go.Proofs.YtljnhelnmnomoaaGreatDoor
