/- The steps of a region by what its slots hold (Typed): each slot holds a value that is known, or an error of a kind that is known. -/
import Derived.Test.YtdkhnkhflbefbaaGreatDoorStep
import Derived.Test.YtdkhnkhflbefbaaGreatDoorArgs
import Derived.Test.YtdkhnkhflbefbaaGreatDoorCode
namespace Go.Proofs.YtdkhnkhflbefbaaGreatDoor
open Go.RowKit Go.Lib

/-- What the slots hold: a value (some), or an error e. -/
def Slots (se : Nat → Addr) (F : List (Value ⊕ EV)) (i : Nat) (v : Value) (w : World) : Prop :=
  match F[i]? with
  | some (.inl x) => v = x
  | some (.inr e) => ErrIs se w v e
  | none => True
theorem Slots.mono {se : Nat → Addr} {F : List (Value ⊕ EV)} (i : Nat) (v : Value) (w w' : World) (h : Slots se F i v w) (u : Ext w w') : Slots se F i v w' := by
  unfold Slots at *
  split <;> rename_i hq <;> rw [hq] at h
  · exact h
  · exact ErrIs.ext h u
  · trivial
section
variable {P : Program} {l : List Oper} {w0 : World} {se : Nat → Addr} {F : List (Value ⊕ EV)} {a0 : Act} {i : Nat} {o : Oper}
def Hold (l : List Oper) (a0 a : Act) : Prop := ∀ t, (∀ o' ∈ l, o'.dst ≠ some t) → a.eval (.tmp t) = a0.eval (.tmp t)
def New (l : List Oper) (se : Nat → Addr) (F : List (Value ⊕ EV)) (o : Oper) (a : Act) (w : World) : Prop := ∀ j o' d, l[j]? = some o' → j ∈ afterOn o → o'.dst = some d → Slots se F j (a.eval (.tmp d)) w
/-- What an operand holds when the operation runs. -/
def Kn (l : List Oper) (se : Nat → Addr) (F : List (Value ⊕ EV)) (a0 : Act) (o : Oper) (x : Operand) (v : Value) : Prop := ∀ a w, Hold l a0 a → New l se F o a w → a.eval x = v
def writesNot (l : List Oper) (t : Nat) : Bool := l.all fun o => o.dst != some t
theorem kn_old (t : Nat) {v : Value} (hn : writesNot l t = true) (h : a0.eval (.tmp t) = v) : Kn l se F a0 o (.tmp t) v := fun a w hH _ =>
  (hH t (fun o' ho' => by simpa using List.all_eq_true.1 hn o' ho')).trans h
theorem kn_new (j : Nat) {d : Nat} {v : Value} {o' : Oper} (h1 : l[j]? = some o') (h2 : o'.dst = some d) (h3 : (afterOn o).contains j = true) (h4 : F[j]? = some (.inl v)) : Kn l se F a0 o (.tmp d) v := fun a w _ hN => by
  have := hN j o' d h1 (by simpa using h3) h2
  unfold Slots at this
  rw [h4] at this
  exact this
theorem kn_const {v : Value} : Kn l se F a0 o (.const v) v := fun _ _ _ _ => rfl
/-- The operation is not guarded, or its guard holds. -/
def Gd (l : List Oper) (se : Nat → Addr) (F : List (Value ⊕ EV)) (a0 : Act) (o : Oper) : Prop :=
  ∀ a w, Hold l a0 a → New l se F o a w → Region.wanted o (yielded l.toArray a.tmps) = true
theorem gd_none (h : o.guard = none) : Gd l se F a0 o := fun a w _ _ => by unfold Region.wanted; rw [h]
theorem gd_some (j : Nat) {b : Bool} {d : Nat} {o' : Oper} (h : o.guard = some (j, b)) (h1 : l[j]? = some o') (h2 : o'.dst = some d) (h3 : (afterOn o).contains j = true) (h4 : F[j]? = some (.inl (.bool b))) : Gd l se F a0 o := fun a w hH hN => by
  have he := kn_new (a0 := a0) j h1 h2 h3 h4 a w hH hN
  have ht : a.tmps[d]? = some (.bool b) := by
    have he : a.tmps.getD d undef = .bool b := he
    rw [Array.getD_eq_getD_getElem?] at he
    cases hq : a.tmps[d]? with
    | none => rw [hq] at he; simp [undef] at he
    | some x => rw [hq] at he; simpa using he
  unfold Region.wanted
  rw [h]
  simp [yielded, h1, h2, ht]
theorem ty_val {v : Value} (hg : Gd l se F a0 o) (hF : F[i]? = some (.inl v)) (h : ∀ a w, Ext w0 w → Hold l a0 a → New l se F o a w → (execOp a.eval o).run P w = .ok (.value v) w) : OpSpec P l w0 (Slots se F) a0 i o := by
  intro a w hX hH hN
  rw [if_pos (hg a w hH hN), h a w hX hH hN]
  exact ⟨Upd.refl _ _, by unfold Slots; rw [hF]⟩
theorem ty_move {x : Operand} {v : Value} (hg : Gd l se F a0 o) (ho : o.op = .move x) (hF : F[i]? = some (.inl v)) (hx : Kn l se F a0 o x v) : OpSpec P l w0 (Slots se F) a0 i o :=
  ty_val hg hF (fun a w _ hH hN => by simp [execOp, ho, hx a w hH hN])
theorem ty_assign {x : Operand} {v : Value} (hg : Gd l se F a0 o) (ho : o.op = .assign x) (hF : F[i]? = some (.inl v)) (hx : Kn l se F a0 o x v) : OpSpec P l w0 (Slots se F) a0 i o :=
  ty_val hg hF (fun a w _ hH hN => by simp [execOp, ho, hx a w hH hN])
theorem ty_not {x : Operand} {ty : TypeId} (b : Bool) (hg : Gd l se F a0 o) (ho : o.op = .unOp .not ty x) (hF : F[i]? = some (.inl (.bool !b))) (hx : Kn l se F a0 o x (.bool b)) : OpSpec P l w0 (Slots se F) a0 i o :=
  ty_val hg hF (fun a w _ hH hN => by simp [execOp, ho, hx a w hH hN, Op.unary])
theorem ty_pickF {c x y : Operand} {v : Value} (hg : Gd l se F a0 o) (ho : o.op = .pick c x y) (hF : F[i]? = some (.inl v)) (hc : Kn l se F a0 o c (.bool false)) (hy : Kn l se F a0 o y v) : OpSpec P l w0 (Slots se F) a0 i o :=
  ty_val hg hF (fun a w _ hH hN => by simp [execOp, ho, hc a w hH hN, hy a w hH hN, asBool])
theorem ty_pickT {c x y : Operand} {v : Value} (hg : Gd l se F a0 o) (ho : o.op = .pick c x y) (hF : F[i]? = some (.inl v)) (hc : Kn l se F a0 o c (.bool true)) (hx : Kn l se F a0 o x v) : OpSpec P l w0 (Slots se F) a0 i o :=
  ty_val hg hF (fun a w _ hH hN => by simp [execOp, ho, hc a w hH hN, hx a w hH hN, asBool])
theorem ty_neqInt {x y : Operand} {ty tr : TypeId} (n : Int) (hg : Gd l se F a0 o) (ho : o.op = .binOp .neq ty x y tr) (hF : F[i]? = some (.inl (.bool false))) (hx : Kn l se F a0 o x (.int .i64 n)) (hy : Kn l se F a0 o y (.int .i64 n)) : OpSpec P l w0 (Slots se F) a0 i o :=
  ty_val hg hF (fun a w _ hH hN => by
    have h1 := hx a w hH hN
    have h2 := hy a w hH hN
    simp only [execOp, ho, h1, h2]
    simp [eqGuard, go_sem])
theorem ty_eqlInt {x y : Operand} {ty tr : TypeId} (n : Int) (hg : Gd l se F a0 o) (ho : o.op = .binOp .eql ty x y tr) (hF : F[i]? = some (.inl (.bool true))) (hx : Kn l se F a0 o x (.int .i64 n)) (hy : Kn l se F a0 o y (.int .i64 n)) : OpSpec P l w0 (Slots se F) a0 i o :=
  ty_val hg hF (fun a w _ hH hN => by
    have h1 := hx a w hH hN
    have h2 := hy a w hH hN
    simp only [execOp, ho, h1, h2]
    simp [eqGuard, go_sem])
theorem ty_neqAgg {x y : Operand} (ty tr : TypeId) (cs ds : Array Value) (hg : Gd l se F a0 o) (ho : o.op = .binOp .neq ty x y tr) (hF : F[i]? = some (.inl (.bool false))) (hx : Kn l se F a0 o x (.agg cs)) (hy : Kn l se F a0 o y (.agg ds)) (hm : P.eqGuardType P.depth ty = false)
    (h : ∀ w, (Op.equalIn 10000 ty (.agg cs) (.agg ds)).run P w = .ok true w) : OpSpec P l w0 (Slots se F) a0 i o :=
  ty_val hg hF (fun a w _ hH hN => by
    unfold execOp
    simp only [ho, hx a w hH hN, hy a w hH hN, Sem.run_bind, run_eqGuard_agg w _ _ _ _ _ _ hm, run_neq_struct, h, Result.andThen_ok, Sem.run_pure]
    rfl)
theorem ty_indexSlice {x ix : Operand} {t : TypeId} (g off len cap k sz : Nat) (e : TypeId) (hg : Gd l se F a0 o) (ho : o.op = .indexAddr t x ix) (hF : F[i]? = some (.inl (.pointer (some ⟨g, off + k * sz, none⟩)))) (hx : Kn l se F a0 o x (.slice (some ⟨g, off, none⟩) len cap)) (hi : Kn l se F a0 o ix (.int .i64 k)) (hk : k < len)
    (hu : P.underlying t = some (.slice e)) (hs : (P.info? e).map (·.size) = some sz) : OpSpec P l w0 (Slots se F) a0 i o :=
  ty_val hg hF (fun a w _ hH hN => by
    have hadd : (⟨g, off, none⟩ : Addr).add (k * sz) = ⟨g, off + k * sz, none⟩ := by unfold Addr.add; split <;> simp_all
    cases hq : P.info? e with
    | none => simp [hq] at hs
    | some i =>
      have his : i.size = sz := by simpa [hq] using hs
      have hk2 : (0 : Int) ≤ (k : Int) ∧ (k : Int) < len := by omega
      simp [execOp, ho, hx a w hH hN, hi a w hH hN, Instr.indexAt, run_underlying hu, asIntOf, sizeOf, typeInfo, hq, his, hk2, hk, hadd])
theorem ty_load1 {x : Operand} {ty : TypeId} (p : Addr) (v : Value) (hg : Gd l se F a0 o) (ho : o.op = .load ty x) (hF : F[i]? = some (.inl v)) (hx : Kn l se F a0 o x (.pointer (some p))) {d : TypeDesc} (hu : P.underlying ty = some d) (hd : aggD d = false)
    (hc : ∀ w, Ext w0 w → w.cell? p = some v) : OpSpec P l w0 (Slots se F) a0 i o :=
  ty_val hg hF (fun a w hX hH hN => by
    have hc := hc w hX
    have hagg : (isAgg ty).run P w = .ok false w := by
      unfold isAgg
      rw [Sem.run_bind, run_underlying hu w]
      cases d <;> simp_all [aggD]
    simp [execOp, ho, hx a w hH hN, Instr.loadAt, Instr.sureAddr, loadVar, Sem.run_bind, hagg, hc])
theorem ty_loadAgg (ty : TypeId) {x : Operand} (g off : Nat) (vs : List Value) (hg : Gd l se F a0 o) (ho : o.op = .load ty x) (hF : F[i]? = some (.inl (.agg vs.toArray))) (hx : Kn l se F a0 o x (.pointer (some ⟨g, off, none⟩))) {d : TypeDesc} (hu : P.underlying ty = some d) (hd : aggD d = true)
    (hi : (P.info? ty).map (·.size) = some vs.length) (hc : ∀ w, Ext w0 w → ∀ j v, vs[j]? = some v → w.cell? ⟨g, off + j, none⟩ = some v) : OpSpec P l w0 (Slots se F) a0 i o :=
  ty_val hg hF (fun a w hX hH hN => by simp only [execOp, ho, hx a w hH hN, Instr.loadAt, Instr.sureAddr, Sem.run_bind, Sem.run_pure, Result.andThen_ok, run_loadVar_at g off ty vs hu hd hi (hc w hX)])
theorem ty_call (f : FuncId) (args : List Operand) (ts : Array TypeId) (hg : Gd l se F a0 o) (ho : o.op = .call { callee := .value (.func f), args := args.toArray, argTypes := ts }) (hb : hasBody P f = true)
    (C : ∀ a w, Ext w0 w → Hold l a0 a → New l se F o a w → Calls P f (args.map a.eval).toArray w fun e w' => ∃ v, e = .returned v ∧ Ext w w' ∧ Slots se F i v w') : OpSpec P l w0 (Slots se F) a0 i o := by
  intro a w hX hH hN
  rw [if_pos (hg a w hH hN)]
  have hr : (execOp a.eval o).run P w = .ok (.enter f (args.map a.eval).toArray) w := by
    simp [execOp, ho, resolve, Deferred.ofValue, Act.eval, invoke]
    exact run_callFunc_body w f _ hb
  rw [hr]
  exact C a w hX hH hN
/-- A call of one operand that is known. -/
theorem ty_call1 (f : FuncId) (x : Operand) (ts : Array TypeId) (u : Value) (hg : Gd l se F a0 o) (ho : o.op = .call { callee := .value (.func f), args := #[x], argTypes := ts }) (hb : hasBody P f = true) (hx : Kn l se F a0 o x u)
    (C : ∀ w, Ext w0 w → Calls P f #[u] w fun e w' => ∃ v, e = .returned v ∧ Ext w w' ∧ Slots se F i v w') : OpSpec P l w0 (Slots se F) a0 i o :=
  ty_call f [x] ts hg ho hb (fun a w hX hH hN => by simp only [List.map_cons, List.map_nil, hx a w hH hN]; exact C w hX)
/-- A call of an error and a value. -/
theorem ty_callE (f : FuncId) (j d : Nat) (x : Operand) (ts : Array TypeId) (er : EV) (u : Value) {o' : Oper} (hg : Gd l se F a0 o) (ho : o.op = .call { callee := .value (.func f), args := #[.tmp d, x], argTypes := ts }) (hb : hasBody P f = true)
    (h1 : l[j]? = some o') (h2 : o'.dst = some d) (h3 : (afterOn o).contains j = true) (h4 : F[j]? = some (.inr er)) (hx : Kn l se F a0 o x u)
    (C : ∀ w z, Ext w0 w → ErrIs se w z er → Calls P f #[z, u] w fun e w' => ∃ v, e = .returned v ∧ Ext w w' ∧ Slots se F i v w') : OpSpec P l w0 (Slots se F) a0 i o :=
  ty_call f [.tmp d, x] ts hg ho hb (fun a w hX hH hN => by
    have hz := hN j o' d h1 (by simpa using h3) h2
    unfold Slots at hz
    rw [h4] at hz
    simp only [List.map_cons, List.map_nil, hx a w hH hN]
    exact C w _ hX hz)
/-- Each operation from k on. -/
def SpecFrom (P : Program) (l : List Oper) (w0 : World) (Φ : Nat → Value → World → Prop) (a0 : Act) : Nat → List Oper → Prop
  | _, [] => True
  | k, o :: r => OpSpec P l w0 Φ a0 k o ∧ SpecFrom P l w0 Φ a0 (k + 1) r
theorem SpecFrom.all {Φ : Nat → Value → World → Prop} : ∀ (r : List Oper) (k : Nat), SpecFrom P l w0 Φ a0 k r → ∀ i o, r[i]? = some o → OpSpec P l w0 Φ a0 (k + i) o
  | [], _, _, _, _, h => by simp at h
  | o' :: r, k, h, 0, o, ho => by
    have e : o' = o := by simpa using ho
    subst e
    exact h.1
  | o' :: r, k, h, i + 1, o, ho => by
    rw [show k + (i + 1) = k + 1 + i by omega]
    exact SpecFrom.all r (k + 1) h.2 i o (by simpa using ho)
theorem region_slots {id : Nat} {Q : Exit → Act → World → Prop} {a : Act} {w : World} {l : List Oper} (se : Nat → Addr) (F : List (Value ⊕ EV)) (hmix : P.follows .mixedOrders = true) (ho : onceB l a.tmps.size = true) (hb : backB l = true) (spec : SpecFrom P l w (Slots se F) a 0 l)
    (h : ∀ (v : Nat → Value) w', Ext w w' → (∀ i o d, l[i]? = some o → o.dst = some d → Slots se F i (v i) w') → Q .normal (putAll v l 0 a) w') : (Code.region id l.toArray true).wp P Q a w :=
  region_typed (Slots se F) hmix Slots.mono ho hb (fun i o hi => by have := SpecFrom.all l 0 spec i o hi; rwa [Nat.zero_add] at this) h
theorem q_norm {Q : Exit → Act → World → Prop} {x : Exit} {a a' : Act} {w : World} (h : a = a') (k : Q x a' w) : Q x a w := by
  subst h
  exact k
theorem slot_val {v : Value} {w : World} {x : Value} (h : Slots se F i v w) (hF : F[i]? = some (.inl x)) : v = x := by
  unfold Slots at h
  rw [hF] at h
  exact h
end
end Go.Proofs.YtdkhnkhflbefbaaGreatDoor
