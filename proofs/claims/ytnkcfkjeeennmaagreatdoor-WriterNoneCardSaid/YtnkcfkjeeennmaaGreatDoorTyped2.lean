/- The steps of a region by what its slots hold (Typed): each slot holds a value that is known, or an error of a kind that is known. A region that draws its order and ends in operations that wait for all others (an append, a store, an assignment): those ahead by what each slot holds (Typed2), the last ones by a walk of their own. Nothing of the program. -/
import Derived.Test.YtnkcfkjeeennmaaGreatDoorInv
import Derived.Test.YtnkcfkjeeennmaaGreatDoorArgs
import Derived.Test.YtnkcfkjeeennmaaGreatDoorCode
namespace Go.Proofs.YtnkcfkjeeennmaaGreatDoor
open Go.RowKit Go.Lib


/-- What the slots hold: a value (some), or an error e. -/
def Slots (se : Nat → Addr) (F : List (Value ⊕ EV)) (i : Nat) (v : Value) (w : World) : Prop :=
  match F[i]? with
  | some (.inl x) => v = x
  | some (.inr e) => ErrIs se w v e
  | none => True
theorem Slots.mono {se : Nat → Addr} {F : List (Value ⊕ EV)} (i : Nat) (v : Value) (w w' : World) (h : Slots se F i v w) (u : Ext w w') : Slots se F i v w' := by
  unfold Slots at *
  split <;> rename_i hq <;> rw [hq] at h
  · exact h
  · exact ErrIs.ext h u
  · trivial
section
variable {P : Program} {l : List Oper} {w0 : World} {se : Nat → Addr} {F : List (Value ⊕ EV)} {a0 : Act} {i : Nat} {o : Oper}
def Hold (l : List Oper) (a0 a : Act) : Prop := ∀ t, (∀ o' ∈ l, o'.dst ≠ some t) → a.eval (.tmp t) = a0.eval (.tmp t)
def New (l : List Oper) (se : Nat → Addr) (F : List (Value ⊕ EV)) (o : Oper) (a : Act) (w : World) : Prop := ∀ j o' d, l[j]? = some o' → j ∈ afterOn o → o'.dst = some d → Slots se F j (a.eval (.tmp d)) w
/-- What an operand holds when the operation runs. -/
def Kn (l : List Oper) (se : Nat → Addr) (F : List (Value ⊕ EV)) (a0 : Act) (o : Oper) (x : Operand) (v : Value) : Prop := ∀ a w, Hold l a0 a → New l se F o a w → a.eval x = v
def writesNot (l : List Oper) (t : Nat) : Bool := l.all fun o => o.dst != some t
theorem kn_old (t : Nat) {v : Value} (hn : writesNot l t = true) (h : a0.eval (.tmp t) = v) : Kn l se F a0 o (.tmp t) v := fun a w hH _ =>
  (hH t (fun o' ho' => by simpa using List.all_eq_true.1 hn o' ho')).trans h
theorem kn_new (j : Nat) {d : Nat} {v : Value} {o' : Oper} (h1 : l[j]? = some o') (h2 : o'.dst = some d) (h3 : (afterOn o).contains j = true) (h4 : F[j]? = some (.inl v)) : Kn l se F a0 o (.tmp d) v := fun a w _ hN => by
  have := hN j o' d h1 (by simpa using h3) h2
  unfold Slots at this
  rw [h4] at this
  exact this
theorem kn_const {v : Value} : Kn l se F a0 o (.const v) v := fun _ _ _ _ => rfl
/-- The operation is not guarded, or its guard holds. -/
def Gd (l : List Oper) (se : Nat → Addr) (F : List (Value ⊕ EV)) (a0 : Act) (o : Oper) : Prop :=
  ∀ a w, Hold l a0 a → New l se F o a w → Region.wanted o (yielded l.toArray a.tmps) = true
theorem gd_none (h : o.guard = none) : Gd l se F a0 o := fun a w _ _ => by unfold Region.wanted; rw [h]
theorem gd_some (j : Nat) {b : Bool} {d : Nat} {o' : Oper} (h : o.guard = some (j, b)) (h1 : l[j]? = some o') (h2 : o'.dst = some d) (h3 : (afterOn o).contains j = true) (h4 : F[j]? = some (.inl (.bool b))) : Gd l se F a0 o := fun a w hH hN => by
  have he := kn_new (a0 := a0) j h1 h2 h3 h4 a w hH hN
  have ht : a.tmps[d]? = some (.bool b) := by
    have he : a.tmps.getD d undef = .bool b := he
    rw [Array.getD_eq_getD_getElem?] at he
    cases hq : a.tmps[d]? with
    | none => rw [hq] at he; simp [undef] at he
    | some x => rw [hq] at he; simpa using he
  unfold Region.wanted
  rw [h]
  simp [yielded, h1, h2, ht]
theorem ty_val {v : Value} (hg : Gd l se F a0 o) (hF : F[i]? = some (.inl v)) (h : ∀ a w, Ext w0 w → Hold l a0 a → New l se F o a w → (execOp a.eval o).run P w = .ok (.value v) w) : OpSpec P l w0 (Slots se F) a0 i o := by
  intro a w hX hH hN
  rw [if_pos (hg a w hH hN), h a w hX hH hN]
  exact ⟨Upd.refl _ _, by unfold Slots; rw [hF]⟩
theorem ty_move {x : Operand} {v : Value} (hg : Gd l se F a0 o) (ho : o.op = .move x) (hF : F[i]? = some (.inl v)) (hx : Kn l se F a0 o x v) : OpSpec P l w0 (Slots se F) a0 i o :=
  ty_val hg hF (fun a w _ hH hN => by simp [execOp, ho, hx a w hH hN])
theorem ty_assign {x : Operand} {v : Value} (hg : Gd l se F a0 o) (ho : o.op = .assign x) (hF : F[i]? = some (.inl v)) (hx : Kn l se F a0 o x v) : OpSpec P l w0 (Slots se F) a0 i o :=
  ty_val hg hF (fun a w _ hH hN => by simp [execOp, ho, hx a w hH hN])
theorem ty_not {x : Operand} {ty : TypeId} (b : Bool) (hg : Gd l se F a0 o) (ho : o.op = .unOp .not ty x) (hF : F[i]? = some (.inl (.bool !b))) (hx : Kn l se F a0 o x (.bool b)) : OpSpec P l w0 (Slots se F) a0 i o :=
  ty_val hg hF (fun a w _ hH hN => by simp [execOp, ho, hx a w hH hN, Op.unary])
theorem ty_pickF {c x y : Operand} {v : Value} (hg : Gd l se F a0 o) (ho : o.op = .pick c x y) (hF : F[i]? = some (.inl v)) (hc : Kn l se F a0 o c (.bool false)) (hy : Kn l se F a0 o y v) : OpSpec P l w0 (Slots se F) a0 i o :=
  ty_val hg hF (fun a w _ hH hN => by simp [execOp, ho, hc a w hH hN, hy a w hH hN, asBool])
theorem ty_pickT {c x y : Operand} {v : Value} (hg : Gd l se F a0 o) (ho : o.op = .pick c x y) (hF : F[i]? = some (.inl v)) (hc : Kn l se F a0 o c (.bool true)) (hx : Kn l se F a0 o x v) : OpSpec P l w0 (Slots se F) a0 i o :=
  ty_val hg hF (fun a w _ hH hN => by simp [execOp, ho, hc a w hH hN, hx a w hH hN, asBool])
theorem ty_neqInt {x y : Operand} {ty tr : TypeId} (n : Int) (hg : Gd l se F a0 o) (ho : o.op = .binOp .neq ty x y tr) (hF : F[i]? = some (.inl (.bool false))) (hx : Kn l se F a0 o x (.int .i64 n)) (hy : Kn l se F a0 o y (.int .i64 n)) : OpSpec P l w0 (Slots se F) a0 i o :=
  ty_val hg hF (fun a w _ hH hN => by
    have h1 := hx a w hH hN
    have h2 := hy a w hH hN
    simp only [execOp, ho, h1, h2]
    simp [eqGuard, go_sem])
theorem ty_eqlInt {x y : Operand} {ty tr : TypeId} (n : Int) (hg : Gd l se F a0 o) (ho : o.op = .binOp .eql ty x y tr) (hF : F[i]? = some (.inl (.bool true))) (hx : Kn l se F a0 o x (.int .i64 n)) (hy : Kn l se F a0 o y (.int .i64 n)) : OpSpec P l w0 (Slots se F) a0 i o :=
  ty_val hg hF (fun a w _ hH hN => by
    have h1 := hx a w hH hN
    have h2 := hy a w hH hN
    simp only [execOp, ho, h1, h2]
    simp [eqGuard, go_sem])
theorem ty_neqAgg {x y : Operand} (ty tr : TypeId) (cs ds : Array Value) (hg : Gd l se F a0 o) (ho : o.op = .binOp .neq ty x y tr) (hF : F[i]? = some (.inl (.bool false))) (hx : Kn l se F a0 o x (.agg cs)) (hy : Kn l se F a0 o y (.agg ds)) (hm : P.eqGuardType P.depth ty = false)
    (h : ∀ w, (Op.equalIn 10000 ty (.agg cs) (.agg ds)).run P w = .ok true w) : OpSpec P l w0 (Slots se F) a0 i o :=
  ty_val hg hF (fun a w _ hH hN => by
    unfold execOp
    simp only [ho, hx a w hH hN, hy a w hH hN, Sem.run_bind, run_eqGuard_agg w _ _ _ _ _ _ hm, run_neq_struct, h, Result.andThen_ok, Sem.run_pure]
    rfl)
theorem ty_indexSlice {x ix : Operand} {t : TypeId} (g off len cap k sz : Nat) (e : TypeId) (hg : Gd l se F a0 o) (ho : o.op = .indexAddr t x ix) (hF : F[i]? = some (.inl (.pointer (some ⟨g, off + k * sz, none⟩)))) (hx : Kn l se F a0 o x (.slice (some ⟨g, off, none⟩) len cap)) (hi : Kn l se F a0 o ix (.int .i64 k)) (hk : k < len)
    (hu : P.underlying t = some (.slice e)) (hs : (P.info? e).map (·.size) = some sz) : OpSpec P l w0 (Slots se F) a0 i o :=
  ty_val hg hF (fun a w _ hH hN => by
    have hadd : (⟨g, off, none⟩ : Addr).add (k * sz) = ⟨g, off + k * sz, none⟩ := by unfold Addr.add; split <;> simp_all
    cases hq : P.info? e with
    | none => simp [hq] at hs
    | some i =>
      have his : i.size = sz := by simpa [hq] using hs
      have hk2 : (0 : Int) ≤ (k : Int) ∧ (k : Int) < len := by omega
      simp [execOp, ho, hx a w hH hN, hi a w hH hN, Instr.indexAt, run_underlying hu, asIntOf, sizeOf, typeInfo, hq, his, hk2, hk, hadd])
theorem ty_load1 {x : Operand} {ty : TypeId} (p : Addr) (v : Value) (hg : Gd l se F a0 o) (ho : o.op = .load ty x) (hF : F[i]? = some (.inl v)) (hx : Kn l se F a0 o x (.pointer (some p))) {d : TypeDesc} (hu : P.underlying ty = some d) (hd : aggD d = false)
    (hc : ∀ w, Ext w0 w → w.cell? p = some v) : OpSpec P l w0 (Slots se F) a0 i o :=
  ty_val hg hF (fun a w hX hH hN => by
    have hc := hc w hX
    have hagg : (isAgg ty).run P w = .ok false w := by
      unfold isAgg
      rw [Sem.run_bind, run_underlying hu w]
      cases d <;> simp_all [aggD]
    simp [execOp, ho, hx a w hH hN, Instr.loadAt, Instr.sureAddr, loadVar, Sem.run_bind, hagg, hc])
theorem ty_loadAgg (ty : TypeId) {x : Operand} (g off : Nat) (vs : List Value) (hg : Gd l se F a0 o) (ho : o.op = .load ty x) (hF : F[i]? = some (.inl (.agg vs.toArray))) (hx : Kn l se F a0 o x (.pointer (some ⟨g, off, none⟩))) {d : TypeDesc} (hu : P.underlying ty = some d) (hd : aggD d = true)
    (hi : (P.info? ty).map (·.size) = some vs.length) (hc : ∀ w, Ext w0 w → ∀ j v, vs[j]? = some v → w.cell? ⟨g, off + j, none⟩ = some v) : OpSpec P l w0 (Slots se F) a0 i o :=
  ty_val hg hF (fun a w hX hH hN => by simp only [execOp, ho, hx a w hH hN, Instr.loadAt, Instr.sureAddr, Sem.run_bind, Sem.run_pure, Result.andThen_ok, run_loadVar_at g off ty vs hu hd hi (hc w hX)])
theorem ty_call (f : FuncId) (args : List Operand) (ts : Array TypeId) (hg : Gd l se F a0 o) (ho : o.op = .call { callee := .value (.func f), args := args.toArray, argTypes := ts }) (hb : hasBody P f = true)
    (C : ∀ a w, Ext w0 w → Hold l a0 a → New l se F o a w → Calls P f (args.map a.eval).toArray w fun e w' => ∃ v, e = .returned v ∧ Ext w w' ∧ Slots se F i v w') : OpSpec P l w0 (Slots se F) a0 i o := by
  intro a w hX hH hN
  rw [if_pos (hg a w hH hN)]
  have hr : (execOp a.eval o).run P w = .ok (.enter f (args.map a.eval).toArray) w := by
    simp [execOp, ho, resolve, Deferred.ofValue, Act.eval, invoke]
    exact run_callFunc_body w f _ hb
  rw [hr]
  exact C a w hX hH hN
/-- A call of one operand that is known. -/
theorem ty_call1 (f : FuncId) (x : Operand) (ts : Array TypeId) (u : Value) (hg : Gd l se F a0 o) (ho : o.op = .call { callee := .value (.func f), args := #[x], argTypes := ts }) (hb : hasBody P f = true) (hx : Kn l se F a0 o x u)
    (C : ∀ w, Ext w0 w → Calls P f #[u] w fun e w' => ∃ v, e = .returned v ∧ Ext w w' ∧ Slots se F i v w') : OpSpec P l w0 (Slots se F) a0 i o :=
  ty_call f [x] ts hg ho hb (fun a w hX hH hN => by simp only [List.map_cons, List.map_nil, hx a w hH hN]; exact C w hX)
/-- A call of an error and a value. -/
theorem ty_callE (f : FuncId) (j d : Nat) (x : Operand) (ts : Array TypeId) (er : EV) (u : Value) {o' : Oper} (hg : Gd l se F a0 o) (ho : o.op = .call { callee := .value (.func f), args := #[.tmp d, x], argTypes := ts }) (hb : hasBody P f = true)
    (h1 : l[j]? = some o') (h2 : o'.dst = some d) (h3 : (afterOn o).contains j = true) (h4 : F[j]? = some (.inr er)) (hx : Kn l se F a0 o x u)
    (C : ∀ w z, Ext w0 w → ErrIs se w z er → Calls P f #[z, u] w fun e w' => ∃ v, e = .returned v ∧ Ext w w' ∧ Slots se F i v w') : OpSpec P l w0 (Slots se F) a0 i o :=
  ty_call f [.tmp d, x] ts hg ho hb (fun a w hX hH hN => by
    have hz := hN j o' d h1 (by simpa using h3) h2
    unfold Slots at hz
    rw [h4] at hz
    simp only [List.map_cons, List.map_nil, hx a w hH hN]
    exact C w _ hX hz)
/-- Each operation from k on. -/
def SpecFrom (P : Program) (l : List Oper) (w0 : World) (Φ : Nat → Value → World → Prop) (a0 : Act) : Nat → List Oper → Prop
  | _, [] => True
  | k, o :: r => OpSpec P l w0 Φ a0 k o ∧ SpecFrom P l w0 Φ a0 (k + 1) r
theorem SpecFrom.all {Φ : Nat → Value → World → Prop} : ∀ (r : List Oper) (k : Nat), SpecFrom P l w0 Φ a0 k r → ∀ i o, r[i]? = some o → OpSpec P l w0 Φ a0 (k + i) o
  | [], _, _, _, _, h => by simp at h
  | o' :: r, k, h, 0, o, ho => by
    have e : o' = o := by simpa using ho
    subst e
    exact h.1
  | o' :: r, k, h, i + 1, o, ho => by
    rw [show k + (i + 1) = k + 1 + i by omega]
    exact SpecFrom.all r (k + 1) h.2 i o (by simpa using ho)
theorem region_slots {id : Nat} {Q : Exit → Act → World → Prop} {a : Act} {w : World} {l : List Oper} (se : Nat → Addr) (F : List (Value ⊕ EV)) (hmix : P.follows .mixedOrders = true) (ho : onceB l a.tmps.size = true) (hb : backB l = true) (spec : SpecFrom P l w (Slots se F) a 0 l)
    (h : ∀ (v : Nat → Value) w', Ext w w' → (∀ i o d, l[i]? = some o → o.dst = some d → Slots se F i (v i) w') → Q .normal (putAll v l 0 a) w') : (Code.region id l.toArray true).wp P Q a w :=
  region_typed (Slots se F) hmix Slots.mono ho hb (fun i o hi => by have := SpecFrom.all l 0 spec i o hi; rwa [Nat.zero_add] at this) h
theorem q_norm {Q : Exit → Act → World → Prop} {x : Exit} {a a' : Act} {w : World} (h : a = a') (k : Q x a' w) : Q x a w := by
  subst h
  exact k
theorem slot_val {v : Value} {w : World} {x : Value} (h : Slots se F i v w) (hF : F[i]? = some (.inl x)) : v = x := by
  unfold Slots at h
  rw [hF] at h
  exact h
end

section
variable {P : Program}
/-- What must have run ahead of those in S. -/
def sweep (l : List Oper) : Nat → List Nat → List Nat
  | 0, S => S
  | k + 1, S => if S.contains k then sweep l k (((l[k]?).map afterOn).getD [] ++ S) else sweep l k S
/-- The operations from n on wait for all ahead of n. -/
def tailB (l : List Oper) (n : Nat) : Bool :=
  (List.range l.length).all fun i => decide (i < n) || (match l[i]? with | some o => (List.range n).all fun j => (sweep l n (afterOn o)).contains j | none => true)
def guardB (l : List Oper) : Bool := l.all fun o => match o.guard with | some (j, _) => decide (j < l.length) | none => true
theorem sweep_listed {l : List Oper} {p : Nat → Prop} (hd : ∀ i o, l[i]? = some o → p i → ∀ j ∈ afterOn o, p j) : ∀ (k : Nat) (S : List Nat), (∀ j ∈ S, p j) → ∀ j ∈ sweep l k S, p j
  | 0, _, h => h
  | k + 1, S, h => by
    unfold sweep
    split
    · rename_i hk
      refine sweep_listed hd k _ (fun j hj => ?_)
      rcases List.mem_append.1 hj with hj | hj
      · cases ho : l[k]? with
        | none => simp [ho] at hj
        | some o => exact hd k o ho (h k (by simpa using hk)) j (by simpa [ho] using hj)
      · exact h j hj
    · exact sweep_listed hd k S h
theorem yielded_take (l : List Oper) (n j : Nat) (h : j < n) (t : Array Value) : yielded (l.take n).toArray t j = yielded l.toArray t j := by
  unfold yielded
  simp [List.getElem?_take, h]
theorem wanted_take {l : List Oper} {n : Nat} {o : Oper} (hn : n ≤ l.length) (hg : guardB (l.take n) = true) (ho : o ∈ l.take n) (t : Array Value) : Region.wanted o (yielded (l.take n).toArray t) = Region.wanted o (yielded l.toArray t) := by
  have := List.all_eq_true.1 hg o ho
  unfold Region.wanted
  cases hgd : o.guard with
  | none => rfl
  | some p =>
    obtain ⟨j, b⟩ := p
    simp only [hgd, decide_eq_true_eq, List.length_take] at this
    simp only
    rw [yielded_take l n j (by omega)]
/-- Those listed are ahead of n, and what they wait for is listed. -/
structure RT (l : List Oper) (n : Nat) (w0 : World) (Φ : Nat → Value → World → Prop) (a0 : Act) (listed : Array Bool) (a : Act) (w : World) : Prop where
  j : RJ (l.take n) w0 Φ a0 ((listed.toList.take n).toArray) a w
  sz : listed.size = l.length
  lo : ∀ i, n ≤ i → i < l.length → listed.getD i false = false
  dc : ∀ i o, l[i]? = some o → listed.getD i false = true → ∀ j ∈ afterOn o, listed.getD j false = true
theorem take_getD (x : Array Bool) (n i : Nat) (d : Bool) (h : i < n) : ((x.toList.take n).toArray).getD i d = x.getD i d := by
  rw [Array.getD_eq_getD_getElem?, Array.getD_eq_getD_getElem?]
  simp [List.getElem?_take, h]
theorem take_set (x : Array Bool) (n i : Nat) : (((x.setIfInBounds i true).toList.take n).toArray) = ((x.toList.take n).toArray).setIfInBounds i true := by
  simp [List.take_set]
theorem any_tail {l : List Oper} {m : Nat} {w0 : World} {Φ : Nat → Value → World → Prop} {a0 : Act} {Q : Exit → Act → World → Prop} (n : Nat) (hn : n ≤ l.length) (hm : ∀ j v w w', Φ j v w → Ext w w' → Φ j v w') (ho : onceB (l.take n) a0.tmps.size = true)
    (hb : backB (l.take n) = true) (hg : guardB (l.take n) = true) (ht : tailB l n = true) (spec : ∀ i o, (l.take n)[i]? = some o → OpSpec P (l.take n) w0 Φ a0 i o)
    (hQ : ∀ listed a w, RT l n w0 Φ a0 listed a w → (∀ i, i < n → listed.getD i false = true) → wpAny P .any l.toArray Q m listed a w) :
    ∀ (c : Nat) (listed : Array Bool) (a : Act) (w : World), RT l n w0 Φ a0 listed a w → (List.range n).countP (fun i => !listed.getD i true) = c → wpAny P .any l.toArray Q (c + m) listed a w := by
  intro c
  induction c with
  | zero =>
    intro listed a w h hc
    rw [Nat.zero_add]
    refine hQ listed a w h (fun i hi => ?_)
    have h0 := List.countP_eq_zero.1 hc i (List.mem_range.2 hi)
    have hs : i < listed.size := by rw [h.sz]; omega
    simp [hs] at h0 ⊢
    exact h0
  | succ c ih =>
    intro listed a w h hc
    rw [show c + 1 + m = (c + m) + 1 by omega]
    have hex : ∃ i, i < n ∧ listed.getD i true = false := by
      have : 0 < (List.range n).countP (fun i => !listed.getD i true) := by omega
      obtain ⟨i, hi, h1⟩ := List.countP_pos_iff.1 this
      exact ⟨i, List.mem_range.1 hi, by simpa using h1⟩
    have hlow : ∀ i, i ∈ Region.ready .any l.toArray listed → i < n := by
      intro i hi
      obtain ⟨h1, o, h2, h3⟩ := mem_ready.1 hi
      have hil : l[i]? = some o := by simpa using h2
      have hlt : i < l.length := (List.getElem?_eq_some_iff.1 hil).1
      apply Classical.byContradiction
      intro hni
      have hb1 := List.all_eq_true.1 ht i (List.mem_range.2 hlt)
      simp only [hil, Bool.or_eq_true, decide_eq_true_eq] at hb1
      have hb2 := hb1.resolve_left hni
      obtain ⟨j, hj, hjf⟩ := hex
      have hb3 := List.all_eq_true.1 hb2 j (List.mem_range.2 hj)
      have := sweep_listed (l := l) (p := fun j => listed.getD j false = true) h.dc n (afterOn o) (fun k hk => by
        obtain ⟨e, he, rfl⟩ := List.mem_map.1 hk
        obtain ⟨he1, he2⟩ := List.mem_filter.1 he
        exact h3 e (by simpa using he1) he2) j (by simpa using hb3)
      have hs : j < listed.size := by rw [h.sz]; omega
      simp [hs] at this hjf
      rw [hjf] at this
      cases this
    refine ⟨fun hr => ?_, fun i hi => ?_⟩
    · exfalso
      -- the least one that is not listed is ready
      have key : ∀ k, k < n → listed.getD k false = true := by
        intro k
        induction k using Nat.strongRecOn with
        | _ k ihk =>
          intro hk
          have hs : k < listed.size := by rw [h.sz]; omega
          rcases Bool.eq_false_or_eq_true (listed.getD k false) with h1 | h1
          · exact h1
          · exfalso
            have hkl : k < l.length := by omega
            have hok : l[k]? = some l[k] := List.getElem?_eq_getElem hkl
            have hok2 : (l.take n)[k]? = some l[k] := by rw [List.getElem?_take, if_pos hk]; exact hok
            have hb1 := List.all_eq_true.1 hb k (List.mem_range.2 (List.getElem?_eq_some_iff.1 hok2).1)
            simp only [hok2] at hb1
            have : k ∈ Region.ready .any l.toArray listed := mem_ready.2 ⟨by simp [hs] at h1 ⊢; exact h1, l[k], by simp, fun e he hbi => by
              have h4 := List.all_eq_true.1 hb1 e.on (List.mem_map.2 ⟨e, List.mem_filter.2 ⟨by simpa using he, hbi⟩, rfl⟩)
              simp only [decide_eq_true_eq] at h4
              exact ihk e.on h4 (by omega)⟩
            rw [hr] at this
            cases this
      obtain ⟨j, hj, hjf⟩ := hex
      have := key j hj
      have hs : j < listed.size := by rw [h.sz]; omega
      simp [hs] at this hjf
      rw [hjf] at this
      cases this
    · have hin := hlow i hi
      obtain ⟨h1, o, h2, h3⟩ := mem_ready.1 hi
      have hil : l[i]? = some o := by simpa using h2
      have hlt : i < l.length := by omega
      have hs : i < listed.size := by rw [h.sz]; exact hlt
      have hit : (l.take n)[i]? = some o := by rw [List.getElem?_take, if_pos hin]; exact hil
      have hc2 : (List.range n).countP (fun j => !(listed.setIfInBounds i true).getD j true) = c := by
        have e : (List.range n).countP (fun i => !listed.getD i true) = (List.range n).countP (fun j => !(listed.setIfInBounds i true).getD j true) + 1 := by
          have hfun : ∀ j, (!listed.getD j true) = ((!(listed.setIfInBounds i true).getD j true) || (j == i)) := by
            intro j
            by_cases e : i = j
            · subst e
              have hh : listed.getD i true = false := by simpa using h1
              simp only [beq_self_eq_true, Bool.or_true, hh, Bool.not_false]
            · rw [getD_set_ne true e]
              have : (j == i) = false := by simp; omega
              rw [this, Bool.or_false]
          have hsep : ∀ (L : List Nat), L.Nodup → i ∈ L → L.countP (fun j => !listed.getD j true) = L.countP (fun j => !(listed.setIfInBounds i true).getD j true) + 1 := by
            intro L hnd hmem
            induction L with
            | nil => cases hmem
            | cons x L ihL =>
              obtain ⟨hx, hnd2⟩ := List.nodup_cons.1 hnd
              rw [List.countP_cons, List.countP_cons]
              by_cases hxi : x = i
              · subst hxi
                have hh : listed.getD x true = false := by simpa using h1
                have h2' : (listed.setIfInBounds x true).getD x true = true := by simp [hs]
                have hrest : L.countP (fun j => !listed.getD j true) = L.countP (fun j => !(listed.setIfInBounds x true).getD j true) := by
                  apply List.countP_congr
                  intro j hj
                  rw [getD_set_ne true (show x ≠ j from fun e => hx (e ▸ hj))]
                rw [hrest, hh, h2']; simp
              · have hmem2 : i ∈ L := by rcases List.mem_cons.1 hmem with e | e; exact absurd e.symm hxi; exact e
                rw [ihL hnd2 hmem2, getD_set_ne true (show i ≠ x from fun e => hxi e.symm)]
                omega
          exact hsep _ List.nodup_range (List.mem_range.2 hin)
        omega
      have sp := spec i o hit a w h.j.I (fun t ht' => eval_congr (h.j.old t (fun j o' hj _ => ht' o' (List.mem_of_getElem? hj)))) (fun j o' d hj hon hd => by
        have hjn : j < n := by
          have := (List.getElem?_eq_some_iff.1 hj).1
          rw [List.length_take] at this; omega
        obtain ⟨e, he, rfl⟩ := List.mem_map.1 hon
        obtain ⟨he1, he2⟩ := List.mem_filter.1 he
        exact h.j.new _ o' d hj (by rw [take_getD _ _ _ _ hjn]; exact h3 e (by simpa using he1) he2) hd)
      rw [wanted_take hn hg (List.mem_of_getElem? hit)] at sp
      have hnext : ∀ (v : Value) (w' : World), Ext w w' → Φ i v w' → RT l n w0 Φ a0 (listed.setIfInBounds i true) (a.put o.dst v) w' := fun v w' hu hv =>
        ⟨by rw [take_set]; exact h.j.step hm ho hit hu hv, by simpa using h.sz, fun k hk hkl => by rw [getD_set_ne false (by omega)]; exact h.lo k hk hkl, fun k ok hk hl j hj => by
          rw [getD_set _ _ _ hs] at hl ⊢
          split
          · rfl
          · split at hl
            · rename_i e
              subst e
              rw [hil] at hk
              cases hk
              obtain ⟨e, he, rfl⟩ := List.mem_map.1 hj
              obtain ⟨he1, he2⟩ := List.mem_filter.1 he
              exact h3 e (by simpa using he1) he2
            · exact h.dc k ok hk hl j hj⟩
      unfold wpOp
      simp only [h2]
      split
      · rename_i hw
        rw [if_pos hw] at sp
        left
        unfold Oper.wp
        generalize (execOp a.eval o).run P w = r at sp ⊢
        cases r with
        | ok nx w' =>
          cases nx <;> simp only [OutRes] at sp <;> simp only [Oper.upon]
          case value u => exact ih _ _ _ (hnext _ _ sp.1 sp.2) hc2
          case enter f args => exact sp.mono fun e w'' ⟨v, he, h4, h5⟩ => by subst he; exact ih _ _ _ (hnext _ _ h4 h5) hc2
        | halt x w' => simp only [OutRes] at sp
      · rename_i hw
        rw [if_neg hw] at sp
        exact ih _ _ _ (hnext _ _ (Upd.refl _ _) sp) hc2
/-- The region: n operations ahead, then those that wait for them all. -/
theorem region_tail {id : Nat} {Q : Exit → Act → World → Prop} {a : Act} {w : World} {l : List Oper} (n : Nat) (se : Nat → Addr) (F : List (Value ⊕ EV)) (hmix : P.follows .mixedOrders = true) (hn : decide (n ≤ l.length) = true) (ho : onceB (l.take n) a.tmps.size = true)
    (hb : backB (l.take n) = true) (hg : guardB (l.take n) = true) (ht : tailB l n = true) (spec : SpecFrom P (l.take n) w (Slots se F) a 0 (l.take n))
    (h : ∀ (v : Nat → Value) w', Ext w w' → (∀ i o d, (l.take n)[i]? = some o → o.dst = some d → Slots se F i (v i) w') → wpAny P .any l.toArray Q (l.length - n) ((List.range l.length).map (fun i => decide (i < n))).toArray (putAll v (l.take n) 0 a) w') : (Code.region id l.toArray true).wp P Q a w := by
  have hn : n ≤ l.length := of_decide_eq_true hn
  refine wp_region_any hmix ?_
  have hlen : (l.take n).length = n := by rw [List.length_take]; omega
  have main := any_tail (P := P) (Q := Q) (w0 := w) (Φ := Slots se F) (a0 := a) (m := l.length - n) n hn Slots.mono ho hb hg ht (fun i o hi => by have := SpecFrom.all (l.take n) 0 spec i o hi; rwa [Nat.zero_add] at this) ?_ n (Array.replicate l.toArray.size false) a w.drew ?_ ?_
  · rw [show n + (l.length - n) = l.toArray.size by simp; omega] at main
    exact main
  · intro listed a' w' hT hall
    have hL : listed = ((List.range l.length).map (fun i => decide (i < n))).toArray := by
      apply Array.ext_getElem?
      intro i
      by_cases hi : i < l.length
      · have hs : i < listed.size := by rw [hT.sz]; exact hi
        have hv : listed.getD i false = decide (i < n) := by
          by_cases hin : i < n
          · rw [hall i hin]; simp [hin]
          · rw [hT.lo i (by omega) hi]; simp [hin]
        rw [Array.getD_eq_getD_getElem?, Array.getElem?_eq_getElem hs] at hv
        rw [Array.getElem?_eq_getElem hs]
        simp only [Option.getD_some] at hv
        simp [hi, hv]
      · rw [Array.getElem?_eq_none (by rw [hT.sz]; omega), Array.getElem?_eq_none (by simp; omega)]
    have hl : ∀ i, i < (l.take n).length → ((listed.toList.take n).toArray).getD i false = true := fun i hi => by
      rw [take_getD _ _ _ _ (by omega)]; exact hall i (by omega)
    have key : ∃ v : Nat → Value, ∀ (i : Nat) (o : Oper) (d : Tmp), (l.take n)[i]? = some o → o.dst = some d → v i = a'.eval (.tmp d) := ⟨fun i => match ((l.take n)[i]?).bind (·.dst) with | some d => a'.eval (.tmp d) | none => undef, fun i o d hi hd => by simp only [hi, Option.bind_some, hd]⟩
    obtain ⟨v, hv⟩ := key
    have hJ := hT.j
    have e : a' = putAll v (l.take n) 0 a := by
      obtain ⟨d1, d2⟩ := putAll_df v (l.take n) 0 a
      have htm : a'.tmps = (putAll v (l.take n) 0 a).tmps := by
        apply Array.ext_getElem?
        intro t
        by_cases hx : ∃ (i : Nat) (o : Oper), (l.take n)[i]? = some o ∧ o.dst = some t
        · obtain ⟨i, o, hi, hd⟩ := hx
          obtain ⟨h1, h2⟩ := once_spec ho hi hd
          rw [putAll_new v t (l.take n) 0 a i o hi hd h1 h2, Nat.zero_add, hv i o t hi hd]
          have h3 : t < a'.tmps.size := by rw [hJ.tz]; exact h1
          rw [Array.getElem?_eq_getElem h3]
          show _ = some (a'.tmps.getD t undef)
          rw [Array.getD_eq_getD_getElem?, Array.getElem?_eq_getElem h3]; rfl
        · have hx : ∀ (i : Nat) (o : Oper), (l.take n)[i]? = some o → o.dst ≠ some t := fun i o hi hd => hx ⟨i, o, hi, hd⟩
          rw [putAll_old v t (l.take n) 0 a (fun o ho' => by
            obtain ⟨i, hi, rfl⟩ := List.mem_iff_getElem.1 ho'
            exact hx i _ (List.getElem?_eq_getElem hi))]
          exact hJ.old t (fun i o hi _ => hx i o hi)
      cases a'
      cases hp : putAll v (l.take n) 0 a
      rw [hp] at htm d1
      simp only [Act.mk.injEq]
      exact ⟨htm, hJ.df.trans d1.symm⟩
    rw [e, hL]
    refine h v w' hJ.I (fun i o d hi hd => ?_)
    rw [hv i o d hi hd]
    exact hJ.new i o d hi (hl i (List.getElem?_eq_some_iff.1 hi).1) hd
  · have rep : ∀ i, (Array.replicate l.toArray.size false).getD i false = false := fun i => by rw [Array.getD_eq_getD_getElem?, Array.getElem?_replicate]; split <;> rfl
    have rep2 : ∀ i, (((Array.replicate l.toArray.size false).toList.take n).toArray).getD i false = false := fun i => by
      rw [Array.getD_eq_getD_getElem?]
      simp only [List.getElem?_toArray, List.getElem?_take, Array.getElem?_toList, Array.getElem?_replicate]
      split
      · split <;> rfl
      · rfl
    exact ⟨⟨(Upd.refl none' w).drew, by simp, rfl, rfl, fun _ _ => rfl, fun i o d _ hl => by rw [rep2] at hl; cases hl⟩, by simp, fun i _ _ => rep i, fun i o _ hl => by rw [rep] at hl; cases hl⟩
  · have : ∀ i ∈ List.range n, (!(Array.replicate l.toArray.size false).getD i true) = true := fun i hi => by
      have hin := List.mem_range.1 hi
      rw [Array.getD_eq_getD_getElem?, Array.getElem?_replicate, if_pos (by simp; omega)]; rfl
    rw [List.countP_eq_length.2 this, List.length_range]
end
end Go.Proofs.YtnkcfkjeeennmaaGreatDoor
