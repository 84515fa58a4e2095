/- A region that draws its order, by what each of its slots holds: a fact for each operation's yield (a value may be another one in each order), kept as the world grows. Nothing of the program. The steps of a region by what its slots hold (Typed): each slot holds a value that is known, or an error of a kind that is known. Steps of a region that draws its order, one branch for each order: for regions where an operation makes a block whose number hangs on the order. Nothing of the program. A region that draws its order and ends in operations that wait for all others (an append, a store, an assignment): those ahead by what each slot holds (Typed2), the last ones by a walk of their own. Nothing of the program. More steps of a region by what its slots hold (Typed2): guards that fail, calls of known operands, pure operations. Nothing of the program. -/
import Derived.Test.YtljnhelnmnomoaaGreatDoorInv
import Derived.Test.YtljnhelnmnomoaaGreatDoorEqual
import Derived.Test.YtljnhelnmnomoaaGreatDoorCode
namespace Go.Proofs.YtljnhelnmnomoaaGreatDoor
open Go.RowKit Go.Lib


section
variable {P : Program}
/-- The operation's outcome at a world: the world has grown, and Φ holds of what it yields. -/
def OutRes (P : Program) (Φ : Value → World → Prop) (w : World) : Result Next → Prop
  | .ok (.value u) w' => Ext w w' ∧ Φ u w'
  | .ok (.enter f args) w' => Calls P f args w' fun e w'' => ∃ v, e = .returned v ∧ Ext w w'' ∧ Φ v w''
  | _ => False
def afterOn (o : Oper) : List Nat := (o.after.toList.filter fun e => Region.binds .any e).map (·.on)
/-- What is asked of an operation: of slots that the region does not write it may know what they held; of the slots that it waits for, their facts. -/
def OpSpec (P : Program) (l : List Oper) (w0 : World) (Φ : Nat → Value → World → Prop) (a0 : Act) (i : Nat) (o : Oper) : Prop :=
  ∀ (a : Act) (w : World), Ext w0 w → (∀ t, (∀ o' ∈ l, o'.dst ≠ some t) → a.eval (.tmp t) = a0.eval (.tmp t)) → (∀ j o' d, l[j]? = some o' → j ∈ afterOn o → o'.dst = some d → Φ j (a.eval (.tmp d)) w) →
    if Region.wanted o (yielded l.toArray a.tmps) = true then OutRes P (Φ i) w ((execOp a.eval o).run P w) else Φ i undef w
structure RJ (l : List Oper) (w0 : World) (Φ : Nat → Value → World → Prop) (a0 : Act) (listed : Array Bool) (a : Act) (w : World) : Prop where
  I : Ext w0 w
  sz : listed.size = l.length
  df : a.defers = a0.defers
  tz : a.tmps.size = a0.tmps.size
  old : ∀ t, (∀ i o, l[i]? = some o → listed.getD i false = true → o.dst ≠ some t) → a.tmps[t]? = a0.tmps[t]?
  new : ∀ i o d, l[i]? = some o → listed.getD i false = true → o.dst = some d → Φ i (a.eval (.tmp d)) w
/-- Each slot is written once, within the frame. -/
def onceB (l : List Oper) (n : Nat) : Bool :=
  (List.range l.length).all fun i => (List.range l.length).all fun j => match l[i]?, l[j]? with
    | some o, some o' => (match o.dst with | some d => decide (d < n) && (decide (i = j) || o'.dst != some d) | none => true)
    | _, _ => true
theorem once_spec {l : List Oper} {n : Nat} (h : onceB l n = true) {i : Nat} {o : Oper} {d : Nat} (hi : l[i]? = some o) (hd : o.dst = some d) : d < n ∧ ∀ j o', l[j]? = some o' → j ≠ i → o'.dst ≠ some d := by
  have hil : i < l.length := (List.getElem?_eq_some_iff.1 hi).1
  have h1 := List.all_eq_true.1 h i (List.mem_range.2 hil)
  refine ⟨?_, fun j o' hj hne => ?_⟩
  · have h2 := List.all_eq_true.1 h1 i (List.mem_range.2 hil)
    simp only [hi, hd, Bool.and_eq_true, decide_eq_true_eq] at h2
    exact h2.1
  · have h2 := List.all_eq_true.1 h1 j (List.mem_range.2 (List.getElem?_eq_some_iff.1 hj).1)
    simp only [hi, hj, hd, Bool.and_eq_true, decide_eq_true_eq, Bool.or_eq_true] at h2
    rcases h2.2 with h3 | h3
    · exact absurd h3.symm hne
    · simpa using h3
theorem getD_set (listed : Array Bool) (i j : Nat) (hi : i < listed.size) : (listed.setIfInBounds i true).getD j false = if i = j then true else listed.getD j false := by
  by_cases h : i = j
  · subst h; simp [hi]
  · rw [if_neg h, getD_set_ne false h]
theorem put_get (a : Act) (d : Nat) (v : Value) (t : Nat) (hd : d < a.tmps.size) : (a.put (some d) v).tmps[t]? = if d = t then some v else a.tmps[t]? := by
  unfold Act.put
  by_cases h : d = t
  · subst h; simp [hd]
  · rw [if_neg h]; exact Array.getElem?_setIfInBounds_ne h
theorem eval_of_get {a : Act} {t : Nat} {v : Value} (h : a.tmps[t]? = some v) : a.eval (.tmp t) = v := by
  show a.tmps.getD t undef = v
  rw [Array.getD_eq_getD_getElem?, h]; rfl
theorem eval_congr {a b : Act} {t : Nat} (h : a.tmps[t]? = b.tmps[t]?) : a.eval (.tmp t) = b.eval (.tmp t) := by
  show a.tmps.getD t undef = b.tmps.getD t undef
  rw [Array.getD_eq_getD_getElem?, Array.getD_eq_getD_getElem?, h]
theorem RJ.step {l : List Oper} {w0 : World} {Φ : Nat → Value → World → Prop} {a0 : Act} {listed : Array Bool} {a : Act} {w w' : World} {i : Nat} {o : Oper} {v : Value} (hm : ∀ j v w w', Φ j v w → Ext w w' → Φ j v w') (ho : onceB l a0.tmps.size = true)
    (h : RJ l w0 Φ a0 listed a w) (hi : l[i]? = some o) (hu : Ext w w') (hv : Φ i v w') : RJ l w0 Φ a0 (listed.setIfInBounds i true) (a.put o.dst v) w' := by
  have hil : i < listed.size := by rw [h.sz]; exact (List.getElem?_eq_some_iff.1 hi).1
  cases hd : o.dst with
  | none =>
    refine ⟨h.I.thenExt hu, by simpa using h.sz, h.df, h.tz, fun t ht => h.old t (fun j oj hj hl => ht j oj hj ?_), fun j oj d hj hl hdj => ?_⟩
    · rw [getD_set _ _ _ hil]; split; · rfl
      exact hl
    · rw [getD_set _ _ _ hil] at hl
      split at hl
      · rename_i e
        subst e
        rw [hi] at hj
        cases hj
        rw [hd] at hdj; cases hdj
      · exact hm _ _ _ _ (h.new j oj d hj hl hdj) hu
  | some d =>
    obtain ⟨hdn, hne⟩ := once_spec ho hi hd
    have hdn2 : d < a.tmps.size := by rw [h.tz]; exact hdn
    refine ⟨h.I.thenExt hu, by simpa using h.sz, h.df, by simpa [Act.put] using h.tz, fun t ht => ?_, fun j oj e hj hl hdj => ?_⟩
    · rw [put_get a d v t hdn2, if_neg (fun e => ht i o hi (by rw [getD_set _ _ _ hil, if_pos rfl]) (by rw [hd, e]))]
      exact h.old t (fun j oj hj hl => ht j oj hj (by rw [getD_set _ _ _ hil]; split <;> first | rfl | exact hl))
    · rw [getD_set _ _ _ hil] at hl
      split at hl
      · rename_i e1
        subst e1
        rw [hi] at hj
        cases hj
        rw [hd] at hdj
        cases hdj
        rw [eval_of_get (show (a.put (some d) v).tmps[d]? = some v by rw [put_get a d v d hdn2, if_pos rfl])]
        exact hv
      · rename_i e1
        rw [eval_congr (show (a.put (some d) v).tmps[e]? = a.tmps[e]? by rw [put_get a d v e hdn2, if_neg (fun e2 => hne j oj hj (fun e3 => e1 e3.symm) (by rw [hdj, e2]))])]
        exact hm _ _ _ _ (h.new j oj e hj hl hdj) hu
theorem count_lt {α : Type} (p q : α → Bool) : ∀ (l : List α), (∀ x, q x = true → p x = true) → (∃ x ∈ l, p x = true ∧ q x = false) → l.countP q < l.countP p
  | [], _, ⟨x, hx, _⟩ => by cases hx
  | y :: l, h, ⟨x, hx, h1, h2⟩ => by
    have le : l.countP q ≤ l.countP p := List.countP_mono_left (fun x _ => h x)
    rcases List.mem_cons.1 hx with e | hx
    · subst e
      rw [List.countP_cons_of_neg (by simp [h2]), List.countP_cons_of_pos h1]
      omega
    · have ih := count_lt p q l h ⟨x, hx, h1, h2⟩
      rw [List.countP_cons, List.countP_cons]
      by_cases hq : q y = true
      · rw [if_pos hq, if_pos (h y hq)]; omega
      · rw [if_neg hq]; omega
theorem any_typed {l : List Oper} {w0 : World} {Φ : Nat → Value → World → Prop} {a0 : Act} {Q : Exit → Act → World → Prop} (hm : ∀ j v w w', Φ j v w → Ext w w' → Φ j v w') (ho : onceB l a0.tmps.size = true)
    (spec : ∀ i o, l[i]? = some o → OpSpec P l w0 Φ a0 i o) (hQ : ∀ listed a w, RJ l w0 Φ a0 listed a w → Region.ready .any l.toArray listed = [] → Q .normal a w) :
    ∀ (n : Nat) (listed : Array Bool) (a : Act) (w : World), RJ l w0 Φ a0 listed a w → (List.range l.length).countP (fun i => !listed.getD i true) ≤ n → wpAny P .any l.toArray Q n listed a w := by
  intro n
  induction n with
  | zero =>
    intro listed a w h hc
    have hr : Region.ready .any l.toArray listed = [] := by
      apply List.eq_nil_iff_forall_not_mem.2
      intro j hj
      obtain ⟨h1, o, h2, _⟩ := mem_ready.1 hj
      have hjl : j < l.length := by simpa using (Array.getElem?_eq_some_iff.1 h2).1
      have : 0 < (List.range l.length).countP (fun i => !listed.getD i true) := List.countP_pos_iff.2 ⟨j, List.mem_range.2 hjl, by simp [h1]⟩
      omega
    exact ⟨hr, hQ listed a w h hr⟩
  | succ n ih =>
    intro listed a w h hc
    refine ⟨fun hr => hQ listed a w h hr, fun i hi => ?_⟩
    obtain ⟨h1, o, h2, h3⟩ := mem_ready.1 hi
    have hil : l[i]? = some o := by simpa using h2
    have hlt : i < l.length := (List.getElem?_eq_some_iff.1 hil).1
    have hc2 : (List.range l.length).countP (fun j => !(listed.setIfInBounds i true).getD j true) ≤ n := by
      have := count_lt (fun j => !listed.getD j true) (fun j => !(listed.setIfInBounds i true).getD j true) (List.range l.length) (fun j hj => by
        by_cases e : i = j
        · subst e; simp [show i < listed.size by rw [h.sz]; exact hlt] at hj
        · rw [getD_set_ne true e] at hj; exact hj) ⟨i, List.mem_range.2 hlt, by simp [h1], by simp [show i < listed.size by rw [h.sz]; exact hlt]⟩
      omega
    have sp := spec i o hil a w h.I (fun t ht => eval_congr (h.old t (fun j o' hj _ => ht o' (List.mem_of_getElem? hj)))) (fun j o' d hj hon hd => by
      obtain ⟨e, he, rfl⟩ := List.mem_map.1 hon
      obtain ⟨he1, he2⟩ := List.mem_filter.1 he
      exact h.new _ o' d hj (h3 e (by simpa using he1) he2) hd)
    unfold wpOp
    simp only [h2]
    split
    · rename_i hw
      rw [if_pos hw] at sp
      left
      unfold Oper.wp
      generalize (execOp a.eval o).run P w = r at sp ⊢
      cases r with
      | ok nx w' =>
        cases nx <;> simp only [OutRes] at sp <;> simp only [Oper.upon]
        case value u => exact ih _ _ _ (h.step hm ho hil sp.1 sp.2) hc2
        case enter f args => exact sp.mono fun e w'' ⟨v, he, h4, h5⟩ => by subst he; exact ih _ _ _ (h.step hm ho hil h4 h5) hc2
      | halt x w' => simp only [OutRes] at sp
    · rename_i hw
      rw [if_neg hw] at sp
      exact ih _ _ _ (h.step hm ho hil (Upd.refl _ _) sp) hc2
/-- The frame behind the region. -/
def putAll (v : Nat → Value) : List Oper → Nat → Act → Act
  | [], _, a => a
  | o :: l, k, a => putAll v l (k + 1) (a.put o.dst (v k))
theorem putAll_df (v : Nat → Value) : ∀ (l : List Oper) (k : Nat) (a : Act), (putAll v l k a).defers = a.defers ∧ (putAll v l k a).tmps.size = a.tmps.size
  | [], _, _ => ⟨rfl, rfl⟩
  | o :: l, k, a => by
    obtain ⟨h1, h2⟩ := putAll_df v l (k + 1) (a.put o.dst (v k))
    refine ⟨h1.trans ?_, h2.trans ?_⟩
    · cases o.dst <;> rfl
    · cases o.dst <;> simp [Act.put]
theorem putAll_old (v : Nat → Value) (t : Nat) : ∀ (l : List Oper) (k : Nat) (a : Act), (∀ o ∈ l, o.dst ≠ some t) → (putAll v l k a).tmps[t]? = a.tmps[t]?
  | [], _, _, _ => rfl
  | o :: l, k, a, h => by
    refine (putAll_old v t l (k + 1) (a.put o.dst (v k)) (fun o' ho' => h o' (by simp [ho']))).trans ?_
    have := h o (by simp)
    cases hd : o.dst with
    | none => rfl
    | some d => exact Array.getElem?_setIfInBounds_ne (fun e => this (by rw [hd, e]))
theorem putAll_new (v : Nat → Value) (t : Nat) : ∀ (l : List Oper) (k : Nat) (a : Act) (j : Nat) (o : Oper), l[j]? = some o → o.dst = some t → t < a.tmps.size → (∀ j' o', l[j']? = some o' → j' ≠ j → o'.dst ≠ some t) → (putAll v l k a).tmps[t]? = some (v (k + j))
  | [], _, _, _, _, h, _, _, _ => by simp at h
  | o0 :: l, k, a, 0, o, h, hd, ht, hn => by
    have e : o0 = o := by simpa using h
    subst e
    refine (putAll_old v t l (k + 1) _ (fun o' ho' => ?_)).trans ?_
    · obtain ⟨i, hi, rfl⟩ := List.mem_iff_getElem.1 ho'
      exact hn (i + 1) _ (by simp [hi]) (by omega)
    · rw [hd, put_get a t (v k) t ht, if_pos rfl]; rfl
  | o0 :: l, k, a, j + 1, o, h, hd, ht, hn => by
    have h2 : l[j]? = some o := by simpa using h
    have hs : (a.put o0.dst (v k)).tmps.size = a.tmps.size := by cases o0.dst <;> simp [Act.put]
    have := putAll_new v t l (k + 1) (a.put o0.dst (v k)) j o h2 hd (by rw [hs]; exact ht) (fun j' o' h3 h4 => hn (j' + 1) o' (by simpa using h3) (by omega))
    rw [show k + (j + 1) = k + 1 + j by omega]
    exact this
/-- Who waits, waits for one that stands ahead in the text. -/
def backB (l : List Oper) : Bool := (List.range l.length).all fun i => match l[i]? with | some o => (afterOn o).all (fun j => decide (j < i)) | none => true
theorem all_listed {l : List Oper} {listed : Array Bool} (hs : listed.size = l.length) (hb : backB l = true) (hr : Region.ready .any l.toArray listed = []) : ∀ i, i < l.length → listed.getD i false = true := by
  intro i
  induction i using Nat.strongRecOn with
  | _ i ih =>
    intro hi
    rcases Bool.eq_false_or_eq_true (listed.getD i false) with h | h
    · exact h
    · exfalso
      have ho : l[i]? = some l[i] := List.getElem?_eq_getElem hi
      have hb1 := List.all_eq_true.1 hb i (List.mem_range.2 hi)
      simp only [ho] at hb1
      have : i ∈ Region.ready .any l.toArray listed := mem_ready.2 ⟨by simp [show i < listed.size by omega] at h ⊢; exact h, l[i], by simp, fun e he hbi => by
        have h1 := List.all_eq_true.1 hb1 e.on (List.mem_map.2 ⟨e, List.mem_filter.2 ⟨by simpa using he, hbi⟩, rfl⟩)
        simp only [decide_eq_true_eq] at h1
        exact ih e.on h1 (by omega)⟩
      rw [hr] at this
      cases this
/-- The region, by what its slots hold. -/
theorem region_typed {id : Nat} {Q : Exit → Act → World → Prop} {a : Act} {w : World} {l : List Oper} (Φ : Nat → Value → World → Prop) (hmix : P.follows .mixedOrders = true) (hm : ∀ j v w w', Φ j v w → Ext w w' → Φ j v w') (ho : onceB l a.tmps.size = true)
    (hb : backB l = true) (spec : ∀ i o, l[i]? = some o → OpSpec P l w Φ a i o)
    (h : ∀ (v : Nat → Value) w', Ext w w' → (∀ i o d, l[i]? = some o → o.dst = some d → Φ i (v i) w') → Q .normal (putAll v l 0 a) w') : (Code.region id l.toArray true).wp P Q a w := by
  refine wp_region_any hmix ?_
  refine any_typed (w0 := w) (Φ := Φ) (a0 := a) hm ho spec ?_ _ _ _ _ ⟨(Upd.refl none' w).drew, by simp, rfl, rfl, fun _ _ => rfl, fun i o d _ hl => by rw [Array.getD_eq_getD_getElem?, Array.getElem?_replicate] at hl; split at hl <;> simp at hl⟩ ?_
  · intro listed a' w' hJ hr
    have hl := all_listed hJ.sz hb hr
    have key : ∃ v : Nat → Value, ∀ (i : Nat) (o : Oper) (d : Tmp), l[i]? = some o → o.dst = some d → v i = a'.eval (.tmp d) := ⟨fun i => match (l[i]?).bind (·.dst) with | some d => a'.eval (.tmp d) | none => undef, fun i o d hi hd => by simp [hi, hd]⟩
    obtain ⟨v, hv⟩ := key
    have e : a' = putAll v l 0 a := by
      obtain ⟨d1, d2⟩ := putAll_df v l 0 a
      have ht : a'.tmps = (putAll v l 0 a).tmps := by
        apply Array.ext_getElem?
        intro t
        by_cases hx : ∃ (i : Nat) (o : Oper), l[i]? = some o ∧ o.dst = some t
        · obtain ⟨i, o, hi, hd⟩ := hx
          obtain ⟨h1, h2⟩ := once_spec ho hi hd
          rw [putAll_new v t l 0 a i o hi hd h1 h2, Nat.zero_add, hv i o t hi hd]
          have h3 : t < a'.tmps.size := by rw [hJ.tz]; exact h1
          rw [Array.getElem?_eq_getElem h3]
          show _ = some (a'.tmps.getD t undef)
          rw [Array.getD_eq_getD_getElem?, Array.getElem?_eq_getElem h3]; rfl
        · have hx : ∀ (i : Nat) (o : Oper), l[i]? = some o → o.dst ≠ some t := fun i o hi hd => hx ⟨i, o, hi, hd⟩
          rw [putAll_old v t l 0 a (fun o ho' => by
            obtain ⟨i, hi, rfl⟩ := List.mem_iff_getElem.1 ho'
            exact hx i _ (List.getElem?_eq_getElem hi))]
          exact hJ.old t (fun i o hi _ => hx i o hi)
      cases a'
      cases hp : putAll v l 0 a
      rw [hp] at ht d1
      simp only [Act.mk.injEq]
      exact ⟨ht, hJ.df.trans d1.symm⟩
    rw [e]
    refine h v w' hJ.I (fun i o d hi hd => ?_)
    rw [hv i o d hi hd]
    exact hJ.new i o d hi (hl i (List.getElem?_eq_some_iff.1 hi).1) hd
  · refine Nat.le_trans List.countP_le_length ?_
    simp
end

/-- What the slots hold: a value (some), or an error e. -/
def Slots (se : Nat → Addr) (F : List (Value ⊕ EV)) (i : Nat) (v : Value) (w : World) : Prop :=
  match F[i]? with
  | some (.inl x) => v = x
  | some (.inr e) => ErrIs se w v e
  | none => True
theorem Slots.mono {se : Nat → Addr} {F : List (Value ⊕ EV)} (i : Nat) (v : Value) (w w' : World) (h : Slots se F i v w) (u : Ext w w') : Slots se F i v w' := by
  unfold Slots at *
  split <;> rename_i hq <;> rw [hq] at h
  · exact h
  · exact ErrIs.ext h u
  · trivial
section
variable {P : Program} {l : List Oper} {w0 : World} {se : Nat → Addr} {F : List (Value ⊕ EV)} {a0 : Act} {i : Nat} {o : Oper}
def Hold (l : List Oper) (a0 a : Act) : Prop := ∀ t, (∀ o' ∈ l, o'.dst ≠ some t) → a.eval (.tmp t) = a0.eval (.tmp t)
def New (l : List Oper) (se : Nat → Addr) (F : List (Value ⊕ EV)) (o : Oper) (a : Act) (w : World) : Prop := ∀ j o' d, l[j]? = some o' → j ∈ afterOn o → o'.dst = some d → Slots se F j (a.eval (.tmp d)) w
/-- What an operand holds when the operation runs. -/
def Kn (l : List Oper) (se : Nat → Addr) (F : List (Value ⊕ EV)) (a0 : Act) (o : Oper) (x : Operand) (v : Value) : Prop := ∀ a w, Hold l a0 a → New l se F o a w → a.eval x = v
def writesNot (l : List Oper) (t : Nat) : Bool := l.all fun o => o.dst != some t
theorem kn_old (t : Nat) {v : Value} (hn : writesNot l t = true) (h : a0.eval (.tmp t) = v) : Kn l se F a0 o (.tmp t) v := fun a w hH _ =>
  (hH t (fun o' ho' => by simpa using List.all_eq_true.1 hn o' ho')).trans h
theorem kn_new (j : Nat) {d : Nat} {v : Value} {o' : Oper} (h1 : l[j]? = some o') (h2 : o'.dst = some d) (h3 : (afterOn o).contains j = true) (h4 : F[j]? = some (.inl v)) : Kn l se F a0 o (.tmp d) v := fun a w _ hN => by
  have := hN j o' d h1 (by simpa using h3) h2
  unfold Slots at this
  rw [h4] at this
  exact this
theorem kn_const {v : Value} : Kn l se F a0 o (.const v) v := fun _ _ _ _ => rfl
/-- The operation is not guarded, or its guard holds. -/
def Gd (l : List Oper) (se : Nat → Addr) (F : List (Value ⊕ EV)) (a0 : Act) (o : Oper) : Prop :=
  ∀ a w, Hold l a0 a → New l se F o a w → Region.wanted o (yielded l.toArray a.tmps) = true
theorem gd_none (h : o.guard = none) : Gd l se F a0 o := fun a w _ _ => by unfold Region.wanted; rw [h]
theorem gd_some (j : Nat) {b : Bool} {d : Nat} {o' : Oper} (h : o.guard = some (j, b)) (h1 : l[j]? = some o') (h2 : o'.dst = some d) (h3 : (afterOn o).contains j = true) (h4 : F[j]? = some (.inl (.bool b))) : Gd l se F a0 o := fun a w hH hN => by
  have he := kn_new (a0 := a0) j h1 h2 h3 h4 a w hH hN
  have ht : a.tmps[d]? = some (.bool b) := by
    have he : a.tmps.getD d undef = .bool b := he
    rw [Array.getD_eq_getD_getElem?] at he
    cases hq : a.tmps[d]? with
    | none => rw [hq] at he; simp [undef] at he
    | some x => rw [hq] at he; simpa using he
  unfold Region.wanted
  rw [h]
  simp [yielded, h1, h2, ht]
theorem ty_val {v : Value} (hg : Gd l se F a0 o) (hF : F[i]? = some (.inl v)) (h : ∀ a w, Ext w0 w → Hold l a0 a → New l se F o a w → (execOp a.eval o).run P w = .ok (.value v) w) : OpSpec P l w0 (Slots se F) a0 i o := by
  intro a w hX hH hN
  rw [if_pos (hg a w hH hN), h a w hX hH hN]
  exact ⟨Upd.refl _ _, by unfold Slots; rw [hF]⟩
theorem ty_move {x : Operand} {v : Value} (hg : Gd l se F a0 o) (ho : o.op = .move x) (hF : F[i]? = some (.inl v)) (hx : Kn l se F a0 o x v) : OpSpec P l w0 (Slots se F) a0 i o :=
  ty_val hg hF (fun a w _ hH hN => by simp [execOp, ho, hx a w hH hN])
theorem ty_assign {x : Operand} {v : Value} (hg : Gd l se F a0 o) (ho : o.op = .assign x) (hF : F[i]? = some (.inl v)) (hx : Kn l se F a0 o x v) : OpSpec P l w0 (Slots se F) a0 i o :=
  ty_val hg hF (fun a w _ hH hN => by simp [execOp, ho, hx a w hH hN])
theorem ty_not {x : Operand} {ty : TypeId} (b : Bool) (hg : Gd l se F a0 o) (ho : o.op = .unOp .not ty x) (hF : F[i]? = some (.inl (.bool !b))) (hx : Kn l se F a0 o x (.bool b)) : OpSpec P l w0 (Slots se F) a0 i o :=
  ty_val hg hF (fun a w _ hH hN => by simp [execOp, ho, hx a w hH hN, Op.unary])
theorem ty_pickF {c x y : Operand} {v : Value} (hg : Gd l se F a0 o) (ho : o.op = .pick c x y) (hF : F[i]? = some (.inl v)) (hc : Kn l se F a0 o c (.bool false)) (hy : Kn l se F a0 o y v) : OpSpec P l w0 (Slots se F) a0 i o :=
  ty_val hg hF (fun a w _ hH hN => by simp [execOp, ho, hc a w hH hN, hy a w hH hN, asBool])
theorem ty_pickT {c x y : Operand} {v : Value} (hg : Gd l se F a0 o) (ho : o.op = .pick c x y) (hF : F[i]? = some (.inl v)) (hc : Kn l se F a0 o c (.bool true)) (hx : Kn l se F a0 o x v) : OpSpec P l w0 (Slots se F) a0 i o :=
  ty_val hg hF (fun a w _ hH hN => by simp [execOp, ho, hc a w hH hN, hx a w hH hN, asBool])
theorem ty_neqInt {x y : Operand} {ty tr : TypeId} (n : Int) (hg : Gd l se F a0 o) (ho : o.op = .binOp .neq ty x y tr) (hF : F[i]? = some (.inl (.bool false))) (hx : Kn l se F a0 o x (.int .i64 n)) (hy : Kn l se F a0 o y (.int .i64 n)) : OpSpec P l w0 (Slots se F) a0 i o :=
  ty_val hg hF (fun a w _ hH hN => by
    have h1 := hx a w hH hN
    have h2 := hy a w hH hN
    simp only [execOp, ho, h1, h2]
    simp [eqGuard, go_sem])
theorem ty_eqlInt {x y : Operand} {ty tr : TypeId} (n : Int) (hg : Gd l se F a0 o) (ho : o.op = .binOp .eql ty x y tr) (hF : F[i]? = some (.inl (.bool true))) (hx : Kn l se F a0 o x (.int .i64 n)) (hy : Kn l se F a0 o y (.int .i64 n)) : OpSpec P l w0 (Slots se F) a0 i o :=
  ty_val hg hF (fun a w _ hH hN => by
    have h1 := hx a w hH hN
    have h2 := hy a w hH hN
    simp only [execOp, ho, h1, h2]
    simp [eqGuard, go_sem])
theorem ty_neqAgg {x y : Operand} (ty tr : TypeId) (cs ds : Array Value) (hg : Gd l se F a0 o) (ho : o.op = .binOp .neq ty x y tr) (hF : F[i]? = some (.inl (.bool false))) (hx : Kn l se F a0 o x (.agg cs)) (hy : Kn l se F a0 o y (.agg ds)) (hm : P.eqGuardType P.depth ty = false)
    (h : ∀ w, (Op.equalIn 10000 ty (.agg cs) (.agg ds)).run P w = .ok true w) : OpSpec P l w0 (Slots se F) a0 i o :=
  ty_val hg hF (fun a w _ hH hN => by
    unfold execOp
    simp only [ho, hx a w hH hN, hy a w hH hN, Sem.run_bind, run_eqGuard_agg w _ _ _ _ _ _ hm, run_neq_struct, h, Result.andThen_ok, Sem.run_pure]
    rfl)
theorem ty_indexSlice {x ix : Operand} {t : TypeId} (g off len cap k sz : Nat) (e : TypeId) (hg : Gd l se F a0 o) (ho : o.op = .indexAddr t x ix) (hF : F[i]? = some (.inl (.pointer (some ⟨g, off + k * sz, none⟩)))) (hx : Kn l se F a0 o x (.slice (some ⟨g, off, none⟩) len cap)) (hi : Kn l se F a0 o ix (.int .i64 k)) (hk : k < len)
    (hu : P.underlying t = some (.slice e)) (hs : (P.info? e).map (·.size) = some sz) : OpSpec P l w0 (Slots se F) a0 i o :=
  ty_val hg hF (fun a w _ hH hN => by
    have hadd : (⟨g, off, none⟩ : Addr).add (k * sz) = ⟨g, off + k * sz, none⟩ := by unfold Addr.add; split <;> simp_all
    cases hq : P.info? e with
    | none => simp [hq] at hs
    | some i =>
      have his : i.size = sz := by simpa [hq] using hs
      have hk2 : (0 : Int) ≤ (k : Int) ∧ (k : Int) < len := by omega
      simp [execOp, ho, hx a w hH hN, hi a w hH hN, Instr.indexAt, run_underlying hu, asIntOf, sizeOf, typeInfo, hq, his, hk2, hk, hadd])
theorem ty_load1 {x : Operand} {ty : TypeId} (p : Addr) (v : Value) (hg : Gd l se F a0 o) (ho : o.op = .load ty x) (hF : F[i]? = some (.inl v)) (hx : Kn l se F a0 o x (.pointer (some p))) {d : TypeDesc} (hu : P.underlying ty = some d) (hd : aggD d = false)
    (hc : ∀ w, Ext w0 w → w.cell? p = some v) : OpSpec P l w0 (Slots se F) a0 i o :=
  ty_val hg hF (fun a w hX hH hN => by
    have hc := hc w hX
    have hagg : (isAgg ty).run P w = .ok false w := by
      unfold isAgg
      rw [Sem.run_bind, run_underlying hu w]
      cases d <;> simp_all [aggD]
    simp [execOp, ho, hx a w hH hN, Instr.loadAt, Instr.sureAddr, loadVar, Sem.run_bind, hagg, hc])
theorem ty_loadAgg (ty : TypeId) {x : Operand} (g off : Nat) (vs : List Value) (hg : Gd l se F a0 o) (ho : o.op = .load ty x) (hF : F[i]? = some (.inl (.agg vs.toArray))) (hx : Kn l se F a0 o x (.pointer (some ⟨g, off, none⟩))) {d : TypeDesc} (hu : P.underlying ty = some d) (hd : aggD d = true)
    (hi : (P.info? ty).map (·.size) = some vs.length) (hc : ∀ w, Ext w0 w → ∀ j v, vs[j]? = some v → w.cell? ⟨g, off + j, none⟩ = some v) : OpSpec P l w0 (Slots se F) a0 i o :=
  ty_val hg hF (fun a w hX hH hN => by simp only [execOp, ho, hx a w hH hN, Instr.loadAt, Instr.sureAddr, Sem.run_bind, Sem.run_pure, Result.andThen_ok, run_loadVar_at g off ty vs hu hd hi (hc w hX)])
theorem ty_call (f : FuncId) (args : List Operand) (ts : Array TypeId) (hg : Gd l se F a0 o) (ho : o.op = .call { callee := .value (.func f), args := args.toArray, argTypes := ts }) (hb : hasBody P f = true)
    (C : ∀ a w, Ext w0 w → Hold l a0 a → New l se F o a w → Calls P f (args.map a.eval).toArray w fun e w' => ∃ v, e = .returned v ∧ Ext w w' ∧ Slots se F i v w') : OpSpec P l w0 (Slots se F) a0 i o := by
  intro a w hX hH hN
  rw [if_pos (hg a w hH hN)]
  have hr : (execOp a.eval o).run P w = .ok (.enter f (args.map a.eval).toArray) w := by
    simp [execOp, ho, resolve, Deferred.ofValue, Act.eval, invoke]
    exact run_callFunc_body w f _ hb
  rw [hr]
  exact C a w hX hH hN
/-- A call of one operand that is known. -/
theorem ty_call1 (f : FuncId) (x : Operand) (ts : Array TypeId) (u : Value) (hg : Gd l se F a0 o) (ho : o.op = .call { callee := .value (.func f), args := #[x], argTypes := ts }) (hb : hasBody P f = true) (hx : Kn l se F a0 o x u)
    (C : ∀ w, Ext w0 w → Calls P f #[u] w fun e w' => ∃ v, e = .returned v ∧ Ext w w' ∧ Slots se F i v w') : OpSpec P l w0 (Slots se F) a0 i o :=
  ty_call f [x] ts hg ho hb (fun a w hX hH hN => by simp only [List.map_cons, List.map_nil, hx a w hH hN]; exact C w hX)
/-- A call of an error and a value. -/
theorem ty_callE (f : FuncId) (j d : Nat) (x : Operand) (ts : Array TypeId) (er : EV) (u : Value) {o' : Oper} (hg : Gd l se F a0 o) (ho : o.op = .call { callee := .value (.func f), args := #[.tmp d, x], argTypes := ts }) (hb : hasBody P f = true)
    (h1 : l[j]? = some o') (h2 : o'.dst = some d) (h3 : (afterOn o).contains j = true) (h4 : F[j]? = some (.inr er)) (hx : Kn l se F a0 o x u)
    (C : ∀ w z, Ext w0 w → ErrIs se w z er → Calls P f #[z, u] w fun e w' => ∃ v, e = .returned v ∧ Ext w w' ∧ Slots se F i v w') : OpSpec P l w0 (Slots se F) a0 i o :=
  ty_call f [.tmp d, x] ts hg ho hb (fun a w hX hH hN => by
    have hz := hN j o' d h1 (by simpa using h3) h2
    unfold Slots at hz
    rw [h4] at hz
    simp only [List.map_cons, List.map_nil, hx a w hH hN]
    exact C w _ hX hz)
/-- Each operation from k on. -/
def SpecFrom (P : Program) (l : List Oper) (w0 : World) (Φ : Nat → Value → World → Prop) (a0 : Act) : Nat → List Oper → Prop
  | _, [] => True
  | k, o :: r => OpSpec P l w0 Φ a0 k o ∧ SpecFrom P l w0 Φ a0 (k + 1) r
theorem SpecFrom.all {Φ : Nat → Value → World → Prop} : ∀ (r : List Oper) (k : Nat), SpecFrom P l w0 Φ a0 k r → ∀ i o, r[i]? = some o → OpSpec P l w0 Φ a0 (k + i) o
  | [], _, _, _, _, h => by simp at h
  | o' :: r, k, h, 0, o, ho => by
    have e : o' = o := by simpa using ho
    subst e
    exact h.1
  | o' :: r, k, h, i + 1, o, ho => by
    rw [show k + (i + 1) = k + 1 + i by omega]
    exact SpecFrom.all r (k + 1) h.2 i o (by simpa using ho)
theorem region_slots {id : Nat} {Q : Exit → Act → World → Prop} {a : Act} {w : World} {l : List Oper} (se : Nat → Addr) (F : List (Value ⊕ EV)) (hmix : P.follows .mixedOrders = true) (ho : onceB l a.tmps.size = true) (hb : backB l = true) (spec : SpecFrom P l w (Slots se F) a 0 l)
    (h : ∀ (v : Nat → Value) w', Ext w w' → (∀ i o d, l[i]? = some o → o.dst = some d → Slots se F i (v i) w') → Q .normal (putAll v l 0 a) w') : (Code.region id l.toArray true).wp P Q a w :=
  region_typed (Slots se F) hmix Slots.mono ho hb (fun i o hi => by have := SpecFrom.all l 0 spec i o hi; rwa [Nat.zero_add] at this) h
theorem q_norm {Q : Exit → Act → World → Prop} {x : Exit} {a a' : Act} {w : World} (h : a = a') (k : Q x a' w) : Q x a w := by
  subst h
  exact k
theorem slot_val {v : Value} {w : World} {x : Value} (h : Slots se F i v w) (hF : F[i]? = some (.inl x)) : v = x := by
  unfold Slots at h
  rw [hF] at h
  exact h
end

section
variable {P : Program} {ops : Array Oper} {Q : Exit → Act → World → Prop} {n : Nat} {listed : Array Bool} {a : Act} {w : World}
theorem any1 (i : Nat) (hr : Region.ready .any ops listed = [i]) (h : wpOp P ops Q i (wpAny P .any ops Q n (listed.setIfInBounds i true)) a w) : wpAny P .any ops Q (n + 1) listed a w :=
  wpAny_all hr (by simp) (fun j hj => by rw [List.mem_singleton.1 hj]; exact h)
theorem any2 (i j : Nat) (hr : Region.ready .any ops listed = [i, j]) (h1 : wpOp P ops Q i (wpAny P .any ops Q n (listed.setIfInBounds i true)) a w) (h2 : wpOp P ops Q j (wpAny P .any ops Q n (listed.setIfInBounds j true)) a w) : wpAny P .any ops Q (n + 1) listed a w :=
  wpAny_all hr (by simp) (fun m hm => by
    rcases List.mem_cons.1 hm with rfl | hm
    · exact h1
    · rw [List.mem_singleton.1 hm]; exact h2)
theorem any3 (i j k : Nat) (hr : Region.ready .any ops listed = [i, j, k]) (h1 : wpOp P ops Q i (wpAny P .any ops Q n (listed.setIfInBounds i true)) a w) (h2 : wpOp P ops Q j (wpAny P .any ops Q n (listed.setIfInBounds j true)) a w)
    (h3 : wpOp P ops Q k (wpAny P .any ops Q n (listed.setIfInBounds k true)) a w) : wpAny P .any ops Q (n + 1) listed a w :=
  wpAny_all hr (by simp) (fun m hm => by
    rcases List.mem_cons.1 hm with rfl | hm
    · exact h1
    · rcases List.mem_cons.1 hm with rfl | hm
      · exact h2
      · rw [List.mem_singleton.1 hm]; exact h3)
variable {i : Nat} {o : Oper} {K : Act → World → Prop}
theorem op_val {v : Value} {w' : World} (hi : ops[i]? = some o) (hw : Region.wanted o (yielded ops a.tmps) = true) (hr : (execOp a.eval o).run P w = .ok (.value v) w') (h : K (a.put o.dst v) w') : wpOp P ops Q i K a w := by
  unfold wpOp
  simp only [hi]
  rw [if_pos hw]
  left
  unfold Oper.wp
  rw [hr]
  exact h
theorem op_load1 (hi : ops[i]? = some o) (hw : Region.wanted o (yielded ops a.tmps) = true) {ty : TypeId} {x : Operand} (ho : o.op = .load ty x) (p : Addr) (v : Value) (hx : a.eval x = .pointer (some p)) {d : TypeDesc} (hu : P.underlying ty = some d) (hd : aggD d = false)
    (hc : w.cell? p = some v) (h : K (a.put o.dst v) w) : wpOp P ops Q i K a w := by
  refine op_val hi hw ?_ h
  have hagg : (isAgg ty).run P w = .ok false w := by
    unfold isAgg
    rw [Sem.run_bind, run_underlying hu w]
    cases d <;> simp_all [aggD]
  simp [execOp, ho, hx, Instr.loadAt, Instr.sureAddr, loadVar, Sem.run_bind, hagg, hc]
theorem op_loadAgg (hi : ops[i]? = some o) (hw : Region.wanted o (yielded ops a.tmps) = true) (ty : TypeId) (x : Operand) (ho : o.op = .load ty x) (g off : Nat) (hx : a.eval x = .pointer (some ⟨g, off, none⟩)) (vs : List Value) {d : TypeDesc} (hu : P.underlying ty = some d) (hd : aggD d = true)
    (hs : (P.info? ty).map (·.size) = some vs.length) (hc : ∀ j v, vs[j]? = some v → w.cell? ⟨g, off + j, none⟩ = some v) (h : K (a.put o.dst (.agg vs.toArray)) w) : wpOp P ops Q i K a w :=
  op_val hi hw (by simp only [execOp, ho, hx, Instr.loadAt, Instr.sureAddr, Sem.run_bind, Sem.run_pure, Result.andThen_ok, run_loadVar_at g off ty vs hu hd hs hc]) h
theorem op_callf (hi : ops[i]? = some o) (hw : Region.wanted o (yielded ops a.tmps) = true) (f : FuncId) (args : List Operand) (ts : Array TypeId)
    (ho : o.op = .call { callee := .value (.func f), args := args.toArray, argTypes := ts }) (hb : hasBody P f = true) (vals : List Value) (hv : args.map a.eval = vals) {R : Value → World → Prop}
    (C : Calls P f vals.toArray w fun e w' => ∃ v, e = .returned v ∧ R v w') (h : ∀ v w', R v w' → K (a.put o.dst v) w') : wpOp P ops Q i K a w := by
  unfold wpOp
  simp only [hi]
  rw [if_pos hw]
  left
  have := step_call (Q := Q) (E := True) hw f args ts ho hb vals hv C h
  rwa [if_pos hw] at this
theorem op_alloc (hi : ops[i]? = some o) (hw : Region.wanted o (yielded ops a.tmps) = true) (ty : TypeId) (ho : o.op = .alloc ty) (z : Value) (hz : (P.info? ty).bind (·.zero) = some z) (h : K (a.put o.dst (.pointer (some ⟨w.heap.size, 0, none⟩))) (w.alloc (.cells z.cells ty))) : wpOp P ops Q i K a w := by
  refine op_val hi hw ?_ h
  cases hq : P.info? ty with
  | none => simp [hq] at hz
  | some t =>
    have hz2 : t.zero = some z := by simpa [hq] using hz
    simp [execOp, ho, Instr.alloc, zeroValue, typeInfo, hq, hz2, newVar, newRow]
theorem op_storeAgg (hi : ops[i]? = some o) (hw : Region.wanted o (yielded ops a.tmps) = true) (ty : TypeId) (x y : Operand) (ho : o.op = .store ty x y)
    (g : Nat) (hx : a.eval x = .pointer (some ⟨g, 0, none⟩)) (vs : List Value) (hy : a.eval y = .agg vs.toArray) (hs : (P.info? ty).map (·.size) = some vs.length)
    (cs : List Value) (t : TypeId) (hg : w.heap[g]? = some (.cells cs.toArray t (0, 0))) (hfit : cs.length = vs.length) (h1 : ∀ u ∈ vs, u.oneCell' = true)
    (h : K (a.put o.dst undef) (w.setRow g vs.toArray)) : wpOp P ops Q i K a w := by
  unfold wpOp
  simp only [hi]
  rw [if_pos hw]
  left
  have hst := run_storeCells_at P g 0 t vs 0 cs.toArray w hg (by simp; omega) h1
  cases hq : P.info? ty with
  | none => simp [hq] at hs
  | some it =>
    have hss : it.size = vs.length := by simpa [hq] using hs
    have hov : vs ++ List.drop vs.length cs = vs := by rw [List.drop_eq_nil_of_le (by omega), List.append_nil]
    simp only [Nat.add_zero, Nat.zero_add] at hst
    unfold Oper.wp execOp
    simp [ho, hx, hy, Instr.storeAt, Instr.sureAddr, storeVar, sizeOf, typeInfo, hq, hss, Value.cells, hst, hov]
    exact h
end

section
variable {P : Program}
/-- What must have run ahead of those in S. -/
def sweep (l : List Oper) : Nat → List Nat → List Nat
  | 0, S => S
  | k + 1, S => if S.contains k then sweep l k (((l[k]?).map afterOn).getD [] ++ S) else sweep l k S
/-- The operations from n on wait for all ahead of n. -/
def tailB (l : List Oper) (n : Nat) : Bool :=
  (List.range l.length).all fun i => decide (i < n) || (match l[i]? with | some o => (List.range n).all fun j => (sweep l n (afterOn o)).contains j | none => true)
def guardB (l : List Oper) : Bool := l.all fun o => match o.guard with | some (j, _) => decide (j < l.length) | none => true
theorem sweep_listed {l : List Oper} {p : Nat → Prop} (hd : ∀ i o, l[i]? = some o → p i → ∀ j ∈ afterOn o, p j) : ∀ (k : Nat) (S : List Nat), (∀ j ∈ S, p j) → ∀ j ∈ sweep l k S, p j
  | 0, _, h => h
  | k + 1, S, h => by
    unfold sweep
    split
    · rename_i hk
      refine sweep_listed hd k _ (fun j hj => ?_)
      rcases List.mem_append.1 hj with hj | hj
      · cases ho : l[k]? with
        | none => simp [ho] at hj
        | some o => exact hd k o ho (h k (by simpa using hk)) j (by simpa [ho] using hj)
      · exact h j hj
    · exact sweep_listed hd k S h
theorem yielded_take (l : List Oper) (n j : Nat) (h : j < n) (t : Array Value) : yielded (l.take n).toArray t j = yielded l.toArray t j := by
  unfold yielded
  simp [List.getElem?_take, h]
theorem wanted_take {l : List Oper} {n : Nat} {o : Oper} (hn : n ≤ l.length) (hg : guardB (l.take n) = true) (ho : o ∈ l.take n) (t : Array Value) : Region.wanted o (yielded (l.take n).toArray t) = Region.wanted o (yielded l.toArray t) := by
  have := List.all_eq_true.1 hg o ho
  unfold Region.wanted
  cases hgd : o.guard with
  | none => rfl
  | some p =>
    obtain ⟨j, b⟩ := p
    simp only [hgd, decide_eq_true_eq, List.length_take] at this
    simp only
    rw [yielded_take l n j (by omega)]
/-- Those listed are ahead of n, and what they wait for is listed. -/
structure RT (l : List Oper) (n : Nat) (w0 : World) (Φ : Nat → Value → World → Prop) (a0 : Act) (listed : Array Bool) (a : Act) (w : World) : Prop where
  j : RJ (l.take n) w0 Φ a0 ((listed.toList.take n).toArray) a w
  sz : listed.size = l.length
  lo : ∀ i, n ≤ i → i < l.length → listed.getD i false = false
  dc : ∀ i o, l[i]? = some o → listed.getD i false = true → ∀ j ∈ afterOn o, listed.getD j false = true
theorem take_getD (x : Array Bool) (n i : Nat) (d : Bool) (h : i < n) : ((x.toList.take n).toArray).getD i d = x.getD i d := by
  rw [Array.getD_eq_getD_getElem?, Array.getD_eq_getD_getElem?]
  simp [List.getElem?_take, h]
theorem take_set (x : Array Bool) (n i : Nat) : (((x.setIfInBounds i true).toList.take n).toArray) = ((x.toList.take n).toArray).setIfInBounds i true := by
  simp [List.take_set]
theorem any_tail {l : List Oper} {m : Nat} {w0 : World} {Φ : Nat → Value → World → Prop} {a0 : Act} {Q : Exit → Act → World → Prop} (n : Nat) (hn : n ≤ l.length) (hm : ∀ j v w w', Φ j v w → Ext w w' → Φ j v w') (ho : onceB (l.take n) a0.tmps.size = true)
    (hb : backB (l.take n) = true) (hg : guardB (l.take n) = true) (ht : tailB l n = true) (spec : ∀ i o, (l.take n)[i]? = some o → OpSpec P (l.take n) w0 Φ a0 i o)
    (hQ : ∀ listed a w, RT l n w0 Φ a0 listed a w → (∀ i, i < n → listed.getD i false = true) → wpAny P .any l.toArray Q m listed a w) :
    ∀ (c : Nat) (listed : Array Bool) (a : Act) (w : World), RT l n w0 Φ a0 listed a w → (List.range n).countP (fun i => !listed.getD i true) = c → wpAny P .any l.toArray Q (c + m) listed a w := by
  intro c
  induction c with
  | zero =>
    intro listed a w h hc
    rw [Nat.zero_add]
    refine hQ listed a w h (fun i hi => ?_)
    have h0 := List.countP_eq_zero.1 hc i (List.mem_range.2 hi)
    have hs : i < listed.size := by rw [h.sz]; omega
    simp [hs] at h0 ⊢
    exact h0
  | succ c ih =>
    intro listed a w h hc
    rw [show c + 1 + m = (c + m) + 1 by omega]
    have hex : ∃ i, i < n ∧ listed.getD i true = false := by
      have : 0 < (List.range n).countP (fun i => !listed.getD i true) := by omega
      obtain ⟨i, hi, h1⟩ := List.countP_pos_iff.1 this
      exact ⟨i, List.mem_range.1 hi, by simpa using h1⟩
    have hlow : ∀ i, i ∈ Region.ready .any l.toArray listed → i < n := by
      intro i hi
      obtain ⟨h1, o, h2, h3⟩ := mem_ready.1 hi
      have hil : l[i]? = some o := by simpa using h2
      have hlt : i < l.length := (List.getElem?_eq_some_iff.1 hil).1
      apply Classical.byContradiction
      intro hni
      have hb1 := List.all_eq_true.1 ht i (List.mem_range.2 hlt)
      simp only [hil, Bool.or_eq_true, decide_eq_true_eq] at hb1
      have hb2 := hb1.resolve_left hni
      obtain ⟨j, hj, hjf⟩ := hex
      have hb3 := List.all_eq_true.1 hb2 j (List.mem_range.2 hj)
      have := sweep_listed (l := l) (p := fun j => listed.getD j false = true) h.dc n (afterOn o) (fun k hk => by
        obtain ⟨e, he, rfl⟩ := List.mem_map.1 hk
        obtain ⟨he1, he2⟩ := List.mem_filter.1 he
        exact h3 e (by simpa using he1) he2) j (by simpa using hb3)
      have hs : j < listed.size := by rw [h.sz]; omega
      simp [hs] at this hjf
      rw [hjf] at this
      cases this
    refine ⟨fun hr => ?_, fun i hi => ?_⟩
    · exfalso
      -- the least one that is not listed is ready
      have key : ∀ k, k < n → listed.getD k false = true := by
        intro k
        induction k using Nat.strongRecOn with
        | _ k ihk =>
          intro hk
          have hs : k < listed.size := by rw [h.sz]; omega
          rcases Bool.eq_false_or_eq_true (listed.getD k false) with h1 | h1
          · exact h1
          · exfalso
            have hkl : k < l.length := by omega
            have hok : l[k]? = some l[k] := List.getElem?_eq_getElem hkl
            have hok2 : (l.take n)[k]? = some l[k] := by rw [List.getElem?_take, if_pos hk]; exact hok
            have hb1 := List.all_eq_true.1 hb k (List.mem_range.2 (List.getElem?_eq_some_iff.1 hok2).1)
            simp only [hok2] at hb1
            have : k ∈ Region.ready .any l.toArray listed := mem_ready.2 ⟨by simp [hs] at h1 ⊢; exact h1, l[k], by simp, fun e he hbi => by
              have h4 := List.all_eq_true.1 hb1 e.on (List.mem_map.2 ⟨e, List.mem_filter.2 ⟨by simpa using he, hbi⟩, rfl⟩)
              simp only [decide_eq_true_eq] at h4
              exact ihk e.on h4 (by omega)⟩
            rw [hr] at this
            cases this
      obtain ⟨j, hj, hjf⟩ := hex
      have := key j hj
      have hs : j < listed.size := by rw [h.sz]; omega
      simp [hs] at this hjf
      rw [hjf] at this
      cases this
    · have hin := hlow i hi
      obtain ⟨h1, o, h2, h3⟩ := mem_ready.1 hi
      have hil : l[i]? = some o := by simpa using h2
      have hlt : i < l.length := by omega
      have hs : i < listed.size := by rw [h.sz]; exact hlt
      have hit : (l.take n)[i]? = some o := by rw [List.getElem?_take, if_pos hin]; exact hil
      have hc2 : (List.range n).countP (fun j => !(listed.setIfInBounds i true).getD j true) = c := by
        have e : (List.range n).countP (fun i => !listed.getD i true) = (List.range n).countP (fun j => !(listed.setIfInBounds i true).getD j true) + 1 := by
          have hfun : ∀ j, (!listed.getD j true) = ((!(listed.setIfInBounds i true).getD j true) || (j == i)) := by
            intro j
            by_cases e : i = j
            · subst e
              have hh : listed.getD i true = false := by simpa using h1
              simp only [beq_self_eq_true, Bool.or_true, hh, Bool.not_false]
            · rw [getD_set_ne true e]
              have : (j == i) = false := by simp; omega
              rw [this, Bool.or_false]
          have hsep : ∀ (L : List Nat), L.Nodup → i ∈ L → L.countP (fun j => !listed.getD j true) = L.countP (fun j => !(listed.setIfInBounds i true).getD j true) + 1 := by
            intro L hnd hmem
            induction L with
            | nil => cases hmem
            | cons x L ihL =>
              obtain ⟨hx, hnd2⟩ := List.nodup_cons.1 hnd
              rw [List.countP_cons, List.countP_cons]
              by_cases hxi : x = i
              · subst hxi
                have hh : listed.getD x true = false := by simpa using h1
                have h2' : (listed.setIfInBounds x true).getD x true = true := by simp [hs]
                have hrest : L.countP (fun j => !listed.getD j true) = L.countP (fun j => !(listed.setIfInBounds x true).getD j true) := by
                  apply List.countP_congr
                  intro j hj
                  rw [getD_set_ne true (show x ≠ j from fun e => hx (e ▸ hj))]
                rw [hrest, hh, h2']; simp
              · have hmem2 : i ∈ L := by rcases List.mem_cons.1 hmem with e | e; exact absurd e.symm hxi; exact e
                rw [ihL hnd2 hmem2, getD_set_ne true (show i ≠ x from fun e => hxi e.symm)]
                omega
          exact hsep _ List.nodup_range (List.mem_range.2 hin)
        omega
      have sp := spec i o hit a w h.j.I (fun t ht' => eval_congr (h.j.old t (fun j o' hj _ => ht' o' (List.mem_of_getElem? hj)))) (fun j o' d hj hon hd => by
        have hjn : j < n := by
          have := (List.getElem?_eq_some_iff.1 hj).1
          rw [List.length_take] at this; omega
        obtain ⟨e, he, rfl⟩ := List.mem_map.1 hon
        obtain ⟨he1, he2⟩ := List.mem_filter.1 he
        exact h.j.new _ o' d hj (by rw [take_getD _ _ _ _ hjn]; exact h3 e (by simpa using he1) he2) hd)
      rw [wanted_take hn hg (List.mem_of_getElem? hit)] at sp
      have hnext : ∀ (v : Value) (w' : World), Ext w w' → Φ i v w' → RT l n w0 Φ a0 (listed.setIfInBounds i true) (a.put o.dst v) w' := fun v w' hu hv =>
        ⟨by rw [take_set]; exact h.j.step hm ho hit hu hv, by simpa using h.sz, fun k hk hkl => by rw [getD_set_ne false (by omega)]; exact h.lo k hk hkl, fun k ok hk hl j hj => by
          rw [getD_set _ _ _ hs] at hl ⊢
          split
          · rfl
          · split at hl
            · rename_i e
              subst e
              rw [hil] at hk
              cases hk
              obtain ⟨e, he, rfl⟩ := List.mem_map.1 hj
              obtain ⟨he1, he2⟩ := List.mem_filter.1 he
              exact h3 e (by simpa using he1) he2
            · exact h.dc k ok hk hl j hj⟩
      unfold wpOp
      simp only [h2]
      split
      · rename_i hw
        rw [if_pos hw] at sp
        left
        unfold Oper.wp
        generalize (execOp a.eval o).run P w = r at sp ⊢
        cases r with
        | ok nx w' =>
          cases nx <;> simp only [OutRes] at sp <;> simp only [Oper.upon]
          case value u => exact ih _ _ _ (hnext _ _ sp.1 sp.2) hc2
          case enter f args => exact sp.mono fun e w'' ⟨v, he, h4, h5⟩ => by subst he; exact ih _ _ _ (hnext _ _ h4 h5) hc2
        | halt x w' => simp only [OutRes] at sp
      · rename_i hw
        rw [if_neg hw] at sp
        exact ih _ _ _ (hnext _ _ (Upd.refl _ _) sp) hc2
/-- The region: n operations ahead, then those that wait for them all. -/
theorem region_tail {id : Nat} {Q : Exit → Act → World → Prop} {a : Act} {w : World} {l : List Oper} (n : Nat) (se : Nat → Addr) (F : List (Value ⊕ EV)) (hmix : P.follows .mixedOrders = true) (hn : decide (n ≤ l.length) = true) (ho : onceB (l.take n) a.tmps.size = true)
    (hb : backB (l.take n) = true) (hg : guardB (l.take n) = true) (ht : tailB l n = true) (spec : SpecFrom P (l.take n) w (Slots se F) a 0 (l.take n))
    (h : ∀ (v : Nat → Value) w', Ext w w' → (∀ i o d, (l.take n)[i]? = some o → o.dst = some d → Slots se F i (v i) w') → wpAny P .any l.toArray Q (l.length - n) ((List.range l.length).map (fun i => decide (i < n))).toArray (putAll v (l.take n) 0 a) w') : (Code.region id l.toArray true).wp P Q a w := by
  have hn : n ≤ l.length := of_decide_eq_true hn
  refine wp_region_any hmix ?_
  have hlen : (l.take n).length = n := by rw [List.length_take]; omega
  have main := any_tail (P := P) (Q := Q) (w0 := w) (Φ := Slots se F) (a0 := a) (m := l.length - n) n hn Slots.mono ho hb hg ht (fun i o hi => by have := SpecFrom.all (l.take n) 0 spec i o hi; rwa [Nat.zero_add] at this) ?_ n (Array.replicate l.toArray.size false) a w.drew ?_ ?_
  · rw [show n + (l.length - n) = l.toArray.size by simp; omega] at main
    exact main
  · intro listed a' w' hT hall
    have hL : listed = ((List.range l.length).map (fun i => decide (i < n))).toArray := by
      apply Array.ext_getElem?
      intro i
      by_cases hi : i < l.length
      · have hs : i < listed.size := by rw [hT.sz]; exact hi
        have hv : listed.getD i false = decide (i < n) := by
          by_cases hin : i < n
          · rw [hall i hin]; simp [hin]
          · rw [hT.lo i (by omega) hi]; simp [hin]
        rw [Array.getD_eq_getD_getElem?, Array.getElem?_eq_getElem hs] at hv
        rw [Array.getElem?_eq_getElem hs]
        simp only [Option.getD_some] at hv
        simp [hi, hv]
      · rw [Array.getElem?_eq_none (by rw [hT.sz]; omega), Array.getElem?_eq_none (by simp; omega)]
    have hl : ∀ i, i < (l.take n).length → ((listed.toList.take n).toArray).getD i false = true := fun i hi => by
      rw [take_getD _ _ _ _ (by omega)]; exact hall i (by omega)
    have key : ∃ v : Nat → Value, ∀ (i : Nat) (o : Oper) (d : Tmp), (l.take n)[i]? = some o → o.dst = some d → v i = a'.eval (.tmp d) := ⟨fun i => match ((l.take n)[i]?).bind (·.dst) with | some d => a'.eval (.tmp d) | none => undef, fun i o d hi hd => by simp only [hi, Option.bind_some, hd]⟩
    obtain ⟨v, hv⟩ := key
    have hJ := hT.j
    have e : a' = putAll v (l.take n) 0 a := by
      obtain ⟨d1, d2⟩ := putAll_df v (l.take n) 0 a
      have htm : a'.tmps = (putAll v (l.take n) 0 a).tmps := by
        apply Array.ext_getElem?
        intro t
        by_cases hx : ∃ (i : Nat) (o : Oper), (l.take n)[i]? = some o ∧ o.dst = some t
        · obtain ⟨i, o, hi, hd⟩ := hx
          obtain ⟨h1, h2⟩ := once_spec ho hi hd
          rw [putAll_new v t (l.take n) 0 a i o hi hd h1 h2, Nat.zero_add, hv i o t hi hd]
          have h3 : t < a'.tmps.size := by rw [hJ.tz]; exact h1
          rw [Array.getElem?_eq_getElem h3]
          show _ = some (a'.tmps.getD t undef)
          rw [Array.getD_eq_getD_getElem?, Array.getElem?_eq_getElem h3]; rfl
        · have hx : ∀ (i : Nat) (o : Oper), (l.take n)[i]? = some o → o.dst ≠ some t := fun i o hi hd => hx ⟨i, o, hi, hd⟩
          rw [putAll_old v t (l.take n) 0 a (fun o ho' => by
            obtain ⟨i, hi, rfl⟩ := List.mem_iff_getElem.1 ho'
            exact hx i _ (List.getElem?_eq_getElem hi))]
          exact hJ.old t (fun i o hi _ => hx i o hi)
      cases a'
      cases hp : putAll v (l.take n) 0 a
      rw [hp] at htm d1
      simp only [Act.mk.injEq]
      exact ⟨htm, hJ.df.trans d1.symm⟩
    rw [e, hL]
    refine h v w' hJ.I (fun i o d hi hd => ?_)
    rw [hv i o d hi hd]
    exact hJ.new i o d hi (hl i (List.getElem?_eq_some_iff.1 hi).1) hd
  · have rep : ∀ i, (Array.replicate l.toArray.size false).getD i false = false := fun i => by rw [Array.getD_eq_getD_getElem?, Array.getElem?_replicate]; split <;> rfl
    have rep2 : ∀ i, (((Array.replicate l.toArray.size false).toList.take n).toArray).getD i false = false := fun i => by
      rw [Array.getD_eq_getD_getElem?]
      simp only [List.getElem?_toArray, List.getElem?_take, Array.getElem?_toList, Array.getElem?_replicate]
      split
      · split <;> rfl
      · rfl
    exact ⟨⟨(Upd.refl none' w).drew, by simp, rfl, rfl, fun _ _ => rfl, fun i o d _ hl => by rw [rep2] at hl; cases hl⟩, by simp, fun i _ _ => rep i, fun i o _ hl => by rw [rep] at hl; cases hl⟩
  · have : ∀ i ∈ List.range n, (!(Array.replicate l.toArray.size false).getD i true) = true := fun i hi => by
      have hin := List.mem_range.1 hi
      rw [Array.getD_eq_getD_getElem?, Array.getElem?_replicate, if_pos (by simp; omega)]; rfl
    rw [List.countP_eq_length.2 this, List.length_range]
end

section
variable {P : Program} {l : List Oper} {w0 : World} {se : Nat → Addr} {F : List (Value ⊕ EV)} {a0 : Act} {i : Nat} {o : Oper}
/-- The guard does not hold: the operation is passed over. -/
theorem ty_skip (j : Nat) {b c : Bool} {d : Nat} {o' : Oper} (h : o.guard = some (j, b)) (h1 : l[j]? = some o') (h2 : o'.dst = some d) (h3 : (afterOn o).contains j = true) (h4 : F[j]? = some (.inl (.bool c))) (hne : (c == b) = false) (hF : F[i]? = some (.inl undef)) : OpSpec P l w0 (Slots se F) a0 i o := by
  intro a w _ hH hN
  have he := kn_new (a0 := a0) j h1 h2 h3 h4 a w hH hN
  have ht : a.tmps[d]? = some (.bool c) := by
    have he : a.tmps.getD d undef = .bool c := he
    rw [Array.getD_eq_getD_getElem?] at he
    cases hq : a.tmps[d]? with
    | none => rw [hq] at he; simp [undef] at he
    | some x => rw [hq] at he; simpa using he
  have hw : Region.wanted o (yielded l.toArray a.tmps) = false := by
    unfold Region.wanted
    rw [h]
    have hcb : ¬ c = b := by simpa using hne
    simp [yielded, h1, h2, ht, hcb]
  rw [hw]
  simp only [Bool.false_eq_true, if_false]
  unfold Slots
  rw [hF]
/-- A guard that was passed over itself. -/
theorem ty_skipU (j : Nat) {b : Bool} {d : Nat} {o' : Oper} (h : o.guard = some (j, b)) (h1 : l[j]? = some o') (h2 : o'.dst = some d) (h3 : (afterOn o).contains j = true) (h4 : F[j]? = some (.inl undef)) (hF : F[i]? = some (.inl undef)) : OpSpec P l w0 (Slots se F) a0 i o := by
  intro a w _ hH hN
  have he := kn_new (a0 := a0) j h1 h2 h3 h4 a w hH hN
  have hw : Region.wanted o (yielded l.toArray a.tmps) = false := by
    unfold Region.wanted
    rw [h]
    have he : a.tmps.getD d undef = undef := he
    rw [Array.getD_eq_getD_getElem?] at he
    cases hq : a.tmps[d]? with
    | none => simp [yielded, h1, h2, hq]
    | some x =>
      rw [hq] at he
      have : x = undef := by simpa using he
      simp [yielded, h1, h2, hq, this, undef]
  rw [hw]
  simp only [Bool.false_eq_true, if_false]
  unfold Slots
  rw [hF]
/-- An operation that looks at no memory. -/
theorem ty_pure (v : Value) (xs : List Operand) (vals : List Value) (hg : Gd l se F a0 o) (hF : F[i]? = some (.inl v)) (hk : ∀ (j : Nat) x, xs[j]? = some x → ∃ u, vals[j]? = some u ∧ Kn l se F a0 o x u) (hl : vals.length = xs.length)
    (hr : ∀ (ev : Operand → Value) (w : World), xs.map ev = vals → (execOp ev o).run P w = .ok (.value v) w) : OpSpec P l w0 (Slots se F) a0 i o :=
  ty_val hg hF (fun a w _ hH hN => hr a.eval w (by
    apply List.ext_getElem?
    intro j
    rw [List.getElem?_map]
    cases hx : xs[j]? with
    | none => rw [List.getElem?_eq_none (by rw [hl]; exact List.getElem?_eq_none_iff.1 hx)]; rfl
    | some x => obtain ⟨u, hu, hku⟩ := hk j x hx; rw [hu]; simp [hku a w hH hN]))
theorem ty_index {x ix : Operand} {t : TypeId} (vx vi v : Value) (hg : Gd l se F a0 o) (ho : o.op = .index t x ix) (hF : F[i]? = some (.inl v)) (hx : Kn l se F a0 o x vx) (hi : Kn l se F a0 o ix vi) (hr : ∀ w, (Instr.index t vx vi).run P w = .ok v w) : OpSpec P l w0 (Slots se F) a0 i o :=
  ty_val hg hF (fun a w _ hH hN => by simp [execOp, ho, hx a w hH hN, hi a w hH hN, hr w])
theorem ty_bin {op : BinOp} {x y : Operand} {ty tr : TypeId} (vx vy v : Value) (hg : Gd l se F a0 o) (ho : o.op = .binOp op ty x y tr) (hF : F[i]? = some (.inl v)) (hx : Kn l se F a0 o x vx) (hy : Kn l se F a0 o y vy)
    (hr : ∀ w : World, (do eqGuard op ty x y vx vy; binOp op ty vx vy : Sem Value).run P w = .ok v w) : OpSpec P l w0 (Slots se F) a0 i o :=
  ty_val hg hF (fun a w _ hH hN => by
    have := hr w
    simp only [execOp, ho, hx a w hH hN, hy a w hH hN]
    rw [Sem.run_bind, this]
    rfl)
theorem ty_fieldAddr {x : Operand} {t : TypeId} {f : Nat} (vx v : Value) (hg : Gd l se F a0 o) (ho : o.op = .fieldAddr t x f) (hF : F[i]? = some (.inl v)) (hx : Kn l se F a0 o x vx) (hr : ∀ w : World, (Instr.fieldAt t vx f).run P w = .ok v w) : OpSpec P l w0 (Slots se F) a0 i o :=
  ty_val hg hF (fun a w _ hH hN => by simp [execOp, ho, hx a w hH hN, hr w])
/-- A call of two operands that are known, or three. -/
theorem ty_call2 (f : FuncId) (x y : Operand) (ts : Array TypeId) (u v : Value) (hg : Gd l se F a0 o) (ho : o.op = .call { callee := .value (.func f), args := #[x, y], argTypes := ts }) (hb : hasBody P f = true) (hx : Kn l se F a0 o x u) (hy : Kn l se F a0 o y v)
    (C : ∀ w, Ext w0 w → Calls P f #[u, v] w fun e w' => ∃ r, e = .returned r ∧ Ext w w' ∧ Slots se F i r w') : OpSpec P l w0 (Slots se F) a0 i o :=
  ty_call f [x, y] ts hg ho hb (fun a w hX hH hN => by simp only [List.map_cons, List.map_nil, hx a w hH hN, hy a w hH hN]; exact C w hX)
theorem ty_call3 (f : FuncId) (x y z : Operand) (ts : Array TypeId) (u v t : Value) (hg : Gd l se F a0 o) (ho : o.op = .call { callee := .value (.func f), args := #[x, y, z], argTypes := ts }) (hb : hasBody P f = true) (hx : Kn l se F a0 o x u) (hy : Kn l se F a0 o y v) (hz : Kn l se F a0 o z t)
    (C : ∀ w, Ext w0 w → Calls P f #[u, v, t] w fun e w' => ∃ r, e = .returned r ∧ Ext w w' ∧ Slots se F i r w') : OpSpec P l w0 (Slots se F) a0 i o :=
  ty_call f [x, y, z] ts hg ho hb (fun a w hX hH hN => by simp only [List.map_cons, List.map_nil, hx a w hH hN, hy a w hH hN, hz a w hH hN]; exact C w hX)
end
theorem run_idx_str {P : Program} {t : TypeId} (hu : P.underlying t = some .string) (s : ByteArray) (k : Nat) (h : k < s.size) (W : World) : (Instr.index t (.string s) (.int .i64 k)).run P W = .ok (.int .u8 ((s[k]'h).toNat : Int)) W := by
  rw [run_index_string W t s .i64 k hu, dif_pos ⟨by omega, by omega⟩]
  rfl
theorem run_neqInt {P : Program} {t : TypeId} {x y : Operand} (k : IntKind) (m n : Int) (b : Bool) (hb : (m != n) = b) (W : World) : (do eqGuard .neq t x y (.int k m) (.int k n); binOp .neq t (.int k m) (.int k n) : Sem Value).run P W = .ok (.bool b) W := by
  subst hb
  simp [eqGuard, go_sem]
theorem run_eqlInt {P : Program} {t : TypeId} {x y : Operand} (k : IntKind) (m n : Int) (b : Bool) (hb : (m == n) = b) (W : World) : (do eqGuard .eql t x y (.int k m) (.int k n); binOp .eql t (.int k m) (.int k n) : Sem Value).run P W = .ok (.bool b) W := by
  subst hb
  simp [eqGuard, go_sem]
/-- A contract whose value is known, in the form that a step asks. -/
theorem known_call {P : Program} {f : FuncId} {args : Array Value} {w : World} {v : Value} {se : Nat → Addr} {F : List (Value ⊕ EV)} {i : Nat} (hF : F[i]? = some (.inl v)) (C : Calls P f args w fun e w' => e = .returned v ∧ Ext w w') :
    Calls P f args w fun e w' => ∃ r, e = .returned r ∧ Ext w w' ∧ Slots se F i r w' :=
  C.mono fun e w' ⟨he, u⟩ => ⟨v, he, u, by unfold Slots; rw [hF]⟩
theorem known_call0 {P : Program} {f : FuncId} {args : Array Value} {w : World} {v : Value} {se : Nat → Addr} {F : List (Value ⊕ EV)} {i : Nat} (hF : F[i]? = some (.inl v)) (C : Calls P f args w fun e w' => e = .returned v ∧ w = w') :
    Calls P f args w fun e w' => ∃ r, e = .returned r ∧ Ext w w' ∧ Slots se F i r w' :=
  C.mono fun e w' ⟨he, hw⟩ => by subst hw; exact ⟨v, he, Upd.refl _ _, by unfold Slots; rw [hF]⟩
theorem err_call {P : Program} {f : FuncId} {args : Array Value} {w : World} {x : EV} {se : Nat → Addr} {F : List (Value ⊕ EV)} {i : Nat} (hF : F[i]? = some (.inr x)) (C : Calls P f args w fun e w' => ∃ v, e = .returned v ∧ ErrIs se w' v x ∧ Ext w w') :
    Calls P f args w fun e w' => ∃ r, e = .returned r ∧ Ext w w' ∧ Slots se F i r w' :=
  C.mono fun e w' ⟨v, he, hv, u⟩ => ⟨v, he, u, by unfold Slots; rw [hF]; exact hv⟩
end Go.Proofs.YtljnhelnmnomoaaGreatDoor
