/- More steps of a region by what its slots hold (Typed2): guards that fail, calls of known operands, pure operations. Nothing of the program. -/
import Derived.Test.YtdkhnkhflbefbaaGreatDoorTail
namespace Go.Proofs.YtdkhnkhflbefbaaGreatDoor
open Go.RowKit Go.Lib

section
variable {P : Program} {l : List Oper} {w0 : World} {se : Nat → Addr} {F : List (Value ⊕ EV)} {a0 : Act} {i : Nat} {o : Oper}
/-- The guard does not hold: the operation is passed over. -/
theorem ty_skip (j : Nat) {b c : Bool} {d : Nat} {o' : Oper} (h : o.guard = some (j, b)) (h1 : l[j]? = some o') (h2 : o'.dst = some d) (h3 : (afterOn o).contains j = true) (h4 : F[j]? = some (.inl (.bool c))) (hne : (c == b) = false) (hF : F[i]? = some (.inl undef)) : OpSpec P l w0 (Slots se F) a0 i o := by
  intro a w _ hH hN
  have he := kn_new (a0 := a0) j h1 h2 h3 h4 a w hH hN
  have ht : a.tmps[d]? = some (.bool c) := by
    have he : a.tmps.getD d undef = .bool c := he
    rw [Array.getD_eq_getD_getElem?] at he
    cases hq : a.tmps[d]? with
    | none => rw [hq] at he; simp [undef] at he
    | some x => rw [hq] at he; simpa using he
  have hw : Region.wanted o (yielded l.toArray a.tmps) = false := by
    unfold Region.wanted
    rw [h]
    have hcb : ¬ c = b := by simpa using hne
    simp [yielded, h1, h2, ht, hcb]
  rw [hw]
  simp only [Bool.false_eq_true, if_false]
  unfold Slots
  rw [hF]
/-- A guard that was passed over itself. -/
theorem ty_skipU (j : Nat) {b : Bool} {d : Nat} {o' : Oper} (h : o.guard = some (j, b)) (h1 : l[j]? = some o') (h2 : o'.dst = some d) (h3 : (afterOn o).contains j = true) (h4 : F[j]? = some (.inl undef)) (hF : F[i]? = some (.inl undef)) : OpSpec P l w0 (Slots se F) a0 i o := by
  intro a w _ hH hN
  have he := kn_new (a0 := a0) j h1 h2 h3 h4 a w hH hN
  have hw : Region.wanted o (yielded l.toArray a.tmps) = false := by
    unfold Region.wanted
    rw [h]
    have he : a.tmps.getD d undef = undef := he
    rw [Array.getD_eq_getD_getElem?] at he
    cases hq : a.tmps[d]? with
    | none => simp [yielded, h1, h2, hq]
    | some x =>
      rw [hq] at he
      have : x = undef := by simpa using he
      simp [yielded, h1, h2, hq, this, undef]
  rw [hw]
  simp only [Bool.false_eq_true, if_false]
  unfold Slots
  rw [hF]
/-- An operation that looks at no memory. -/
theorem ty_pure (v : Value) (xs : List Operand) (vals : List Value) (hg : Gd l se F a0 o) (hF : F[i]? = some (.inl v)) (hk : ∀ (j : Nat) x, xs[j]? = some x → ∃ u, vals[j]? = some u ∧ Kn l se F a0 o x u) (hl : vals.length = xs.length)
    (hr : ∀ (ev : Operand → Value) (w : World), xs.map ev = vals → (execOp ev o).run P w = .ok (.value v) w) : OpSpec P l w0 (Slots se F) a0 i o :=
  ty_val hg hF (fun a w _ hH hN => hr a.eval w (by
    apply List.ext_getElem?
    intro j
    rw [List.getElem?_map]
    cases hx : xs[j]? with
    | none => rw [List.getElem?_eq_none (by rw [hl]; exact List.getElem?_eq_none_iff.1 hx)]; rfl
    | some x => obtain ⟨u, hu, hku⟩ := hk j x hx; rw [hu]; simp [hku a w hH hN]))
theorem ty_index {x ix : Operand} {t : TypeId} (vx vi v : Value) (hg : Gd l se F a0 o) (ho : o.op = .index t x ix) (hF : F[i]? = some (.inl v)) (hx : Kn l se F a0 o x vx) (hi : Kn l se F a0 o ix vi) (hr : ∀ w, (Instr.index t vx vi).run P w = .ok v w) : OpSpec P l w0 (Slots se F) a0 i o :=
  ty_val hg hF (fun a w _ hH hN => by simp [execOp, ho, hx a w hH hN, hi a w hH hN, hr w])
theorem ty_bin {op : BinOp} {x y : Operand} {ty tr : TypeId} (vx vy v : Value) (hg : Gd l se F a0 o) (ho : o.op = .binOp op ty x y tr) (hF : F[i]? = some (.inl v)) (hx : Kn l se F a0 o x vx) (hy : Kn l se F a0 o y vy)
    (hr : ∀ w : World, (do eqGuard op ty x y vx vy; binOp op ty vx vy : Sem Value).run P w = .ok v w) : OpSpec P l w0 (Slots se F) a0 i o :=
  ty_val hg hF (fun a w _ hH hN => by
    have := hr w
    simp only [execOp, ho, hx a w hH hN, hy a w hH hN]
    rw [Sem.run_bind, this]
    rfl)
theorem ty_fieldAddr {x : Operand} {t : TypeId} {f : Nat} (vx v : Value) (hg : Gd l se F a0 o) (ho : o.op = .fieldAddr t x f) (hF : F[i]? = some (.inl v)) (hx : Kn l se F a0 o x vx) (hr : ∀ w : World, (Instr.fieldAt t vx f).run P w = .ok v w) : OpSpec P l w0 (Slots se F) a0 i o :=
  ty_val hg hF (fun a w _ hH hN => by simp [execOp, ho, hx a w hH hN, hr w])
/-- A call of two operands that are known, or three. -/
theorem ty_call2 (f : FuncId) (x y : Operand) (ts : Array TypeId) (u v : Value) (hg : Gd l se F a0 o) (ho : o.op = .call { callee := .value (.func f), args := #[x, y], argTypes := ts }) (hb : hasBody P f = true) (hx : Kn l se F a0 o x u) (hy : Kn l se F a0 o y v)
    (C : ∀ w, Ext w0 w → Calls P f #[u, v] w fun e w' => ∃ r, e = .returned r ∧ Ext w w' ∧ Slots se F i r w') : OpSpec P l w0 (Slots se F) a0 i o :=
  ty_call f [x, y] ts hg ho hb (fun a w hX hH hN => by simp only [List.map_cons, List.map_nil, hx a w hH hN, hy a w hH hN]; exact C w hX)
theorem ty_call3 (f : FuncId) (x y z : Operand) (ts : Array TypeId) (u v t : Value) (hg : Gd l se F a0 o) (ho : o.op = .call { callee := .value (.func f), args := #[x, y, z], argTypes := ts }) (hb : hasBody P f = true) (hx : Kn l se F a0 o x u) (hy : Kn l se F a0 o y v) (hz : Kn l se F a0 o z t)
    (C : ∀ w, Ext w0 w → Calls P f #[u, v, t] w fun e w' => ∃ r, e = .returned r ∧ Ext w w' ∧ Slots se F i r w') : OpSpec P l w0 (Slots se F) a0 i o :=
  ty_call f [x, y, z] ts hg ho hb (fun a w hX hH hN => by simp only [List.map_cons, List.map_nil, hx a w hH hN, hy a w hH hN, hz a w hH hN]; exact C w hX)
end
theorem run_idx_str {P : Program} {t : TypeId} (hu : P.underlying t = some .string) (s : ByteArray) (k : Nat) (h : k < s.size) (W : World) : (Instr.index t (.string s) (.int .i64 k)).run P W = .ok (.int .u8 ((s[k]'h).toNat : Int)) W := by
  rw [run_index_string W t s .i64 k hu, dif_pos ⟨by omega, by omega⟩]
  rfl
theorem run_neqInt {P : Program} {t : TypeId} {x y : Operand} (k : IntKind) (m n : Int) (b : Bool) (hb : (m != n) = b) (W : World) : (do eqGuard .neq t x y (.int k m) (.int k n); binOp .neq t (.int k m) (.int k n) : Sem Value).run P W = .ok (.bool b) W := by
  subst hb
  simp [eqGuard, go_sem]
theorem run_eqlInt {P : Program} {t : TypeId} {x y : Operand} (k : IntKind) (m n : Int) (b : Bool) (hb : (m == n) = b) (W : World) : (do eqGuard .eql t x y (.int k m) (.int k n); binOp .eql t (.int k m) (.int k n) : Sem Value).run P W = .ok (.bool b) W := by
  subst hb
  simp [eqGuard, go_sem]
/-- A contract whose value is known, in the form that a step asks. -/
theorem known_call {P : Program} {f : FuncId} {args : Array Value} {w : World} {v : Value} {se : Nat → Addr} {F : List (Value ⊕ EV)} {i : Nat} (hF : F[i]? = some (.inl v)) (C : Calls P f args w fun e w' => e = .returned v ∧ Ext w w') :
    Calls P f args w fun e w' => ∃ r, e = .returned r ∧ Ext w w' ∧ Slots se F i r w' :=
  C.mono fun e w' ⟨he, u⟩ => ⟨v, he, u, by unfold Slots; rw [hF]⟩
theorem known_call0 {P : Program} {f : FuncId} {args : Array Value} {w : World} {v : Value} {se : Nat → Addr} {F : List (Value ⊕ EV)} {i : Nat} (hF : F[i]? = some (.inl v)) (C : Calls P f args w fun e w' => e = .returned v ∧ w = w') :
    Calls P f args w fun e w' => ∃ r, e = .returned r ∧ Ext w w' ∧ Slots se F i r w' :=
  C.mono fun e w' ⟨he, hw⟩ => by subst hw; exact ⟨v, he, Upd.refl _ _, by unfold Slots; rw [hF]⟩
theorem err_call {P : Program} {f : FuncId} {args : Array Value} {w : World} {x : EV} {se : Nat → Addr} {F : List (Value ⊕ EV)} {i : Nat} (hF : F[i]? = some (.inr x)) (C : Calls P f args w fun e w' => ∃ v, e = .returned v ∧ ErrIs se w' v x ∧ Ext w w') :
    Calls P f args w fun e w' => ∃ r, e = .returned r ∧ Ext w w' ∧ Slots se F i r w' :=
  C.mono fun e w' ⟨v, he, hv, u⟩ => ⟨v, he, u, by unfold Slots; rw [hF]; exact hv⟩
end Go.Proofs.YtdkhnkhflbefbaaGreatDoor
