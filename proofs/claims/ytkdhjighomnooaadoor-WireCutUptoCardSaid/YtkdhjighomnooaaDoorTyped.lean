/- A region that draws its order, by what each of its slots holds: a fact for each operation's yield (a value may be another one in each order), kept as the world grows. Nothing of the program. -/
import Derived.Test.YtkdhjighomnooaaDoorInv
namespace Go.Proofs.YtkdhjighomnooaaDoor
open Go.RowKit Go.Lib

section
variable {P : Program}
/-- The operation's outcome at a world: the world has grown, and Φ holds of what it yields. -/
def OutRes (P : Program) (Φ : Value → World → Prop) (w : World) : Result Next → Prop
  | .ok (.value u) w' => Ext w w' ∧ Φ u w'
  | .ok (.enter f args) w' => Calls P f args w' fun e w'' => ∃ v, e = .returned v ∧ Ext w w'' ∧ Φ v w''
  | _ => False
def afterOn (o : Oper) : List Nat := (o.after.toList.filter fun e => Region.binds .any e).map (·.on)
/-- What is asked of an operation: of slots that the region does not write it may know what they held; of the slots that it waits for, their facts. -/
def OpSpec (P : Program) (l : List Oper) (w0 : World) (Φ : Nat → Value → World → Prop) (a0 : Act) (i : Nat) (o : Oper) : Prop :=
  ∀ (a : Act) (w : World), Ext w0 w → (∀ t, (∀ o' ∈ l, o'.dst ≠ some t) → a.eval (.tmp t) = a0.eval (.tmp t)) → (∀ j o' d, l[j]? = some o' → j ∈ afterOn o → o'.dst = some d → Φ j (a.eval (.tmp d)) w) →
    if Region.wanted o (yielded l.toArray a.tmps) = true then OutRes P (Φ i) w ((execOp a.eval o).run P w) else Φ i undef w
structure RJ (l : List Oper) (w0 : World) (Φ : Nat → Value → World → Prop) (a0 : Act) (listed : Array Bool) (a : Act) (w : World) : Prop where
  I : Ext w0 w
  sz : listed.size = l.length
  df : a.defers = a0.defers
  tz : a.tmps.size = a0.tmps.size
  old : ∀ t, (∀ i o, l[i]? = some o → listed.getD i false = true → o.dst ≠ some t) → a.tmps[t]? = a0.tmps[t]?
  new : ∀ i o d, l[i]? = some o → listed.getD i false = true → o.dst = some d → Φ i (a.eval (.tmp d)) w
/-- Each slot is written once, within the frame. -/
def onceB (l : List Oper) (n : Nat) : Bool :=
  (List.range l.length).all fun i => (List.range l.length).all fun j => match l[i]?, l[j]? with
    | some o, some o' => (match o.dst with | some d => decide (d < n) && (decide (i = j) || o'.dst != some d) | none => true)
    | _, _ => true
theorem once_spec {l : List Oper} {n : Nat} (h : onceB l n = true) {i : Nat} {o : Oper} {d : Nat} (hi : l[i]? = some o) (hd : o.dst = some d) : d < n ∧ ∀ j o', l[j]? = some o' → j ≠ i → o'.dst ≠ some d := by
  have hil : i < l.length := (List.getElem?_eq_some_iff.1 hi).1
  have h1 := List.all_eq_true.1 h i (List.mem_range.2 hil)
  refine ⟨?_, fun j o' hj hne => ?_⟩
  · have h2 := List.all_eq_true.1 h1 i (List.mem_range.2 hil)
    simp only [hi, hd, Bool.and_eq_true, decide_eq_true_eq] at h2
    exact h2.1
  · have h2 := List.all_eq_true.1 h1 j (List.mem_range.2 (List.getElem?_eq_some_iff.1 hj).1)
    simp only [hi, hj, hd, Bool.and_eq_true, decide_eq_true_eq, Bool.or_eq_true] at h2
    rcases h2.2 with h3 | h3
    · exact absurd h3.symm hne
    · simpa using h3
theorem getD_set (listed : Array Bool) (i j : Nat) (hi : i < listed.size) : (listed.setIfInBounds i true).getD j false = if i = j then true else listed.getD j false := by
  by_cases h : i = j
  · subst h; simp [hi]
  · rw [if_neg h, getD_set_ne false h]
theorem put_get (a : Act) (d : Nat) (v : Value) (t : Nat) (hd : d < a.tmps.size) : (a.put (some d) v).tmps[t]? = if d = t then some v else a.tmps[t]? := by
  unfold Act.put
  by_cases h : d = t
  · subst h; simp [hd]
  · rw [if_neg h]; exact Array.getElem?_setIfInBounds_ne h
theorem eval_of_get {a : Act} {t : Nat} {v : Value} (h : a.tmps[t]? = some v) : a.eval (.tmp t) = v := by
  show a.tmps.getD t undef = v
  rw [Array.getD_eq_getD_getElem?, h]; rfl
theorem eval_congr {a b : Act} {t : Nat} (h : a.tmps[t]? = b.tmps[t]?) : a.eval (.tmp t) = b.eval (.tmp t) := by
  show a.tmps.getD t undef = b.tmps.getD t undef
  rw [Array.getD_eq_getD_getElem?, Array.getD_eq_getD_getElem?, h]
theorem RJ.step {l : List Oper} {w0 : World} {Φ : Nat → Value → World → Prop} {a0 : Act} {listed : Array Bool} {a : Act} {w w' : World} {i : Nat} {o : Oper} {v : Value} (hm : ∀ j v w w', Φ j v w → Ext w w' → Φ j v w') (ho : onceB l a0.tmps.size = true)
    (h : RJ l w0 Φ a0 listed a w) (hi : l[i]? = some o) (hu : Ext w w') (hv : Φ i v w') : RJ l w0 Φ a0 (listed.setIfInBounds i true) (a.put o.dst v) w' := by
  have hil : i < listed.size := by rw [h.sz]; exact (List.getElem?_eq_some_iff.1 hi).1
  cases hd : o.dst with
  | none =>
    refine ⟨h.I.thenExt hu, by simpa using h.sz, h.df, h.tz, fun t ht => h.old t (fun j oj hj hl => ht j oj hj ?_), fun j oj d hj hl hdj => ?_⟩
    · rw [getD_set _ _ _ hil]; split; · rfl
      exact hl
    · rw [getD_set _ _ _ hil] at hl
      split at hl
      · rename_i e
        subst e
        rw [hi] at hj
        cases hj
        rw [hd] at hdj; cases hdj
      · exact hm _ _ _ _ (h.new j oj d hj hl hdj) hu
  | some d =>
    obtain ⟨hdn, hne⟩ := once_spec ho hi hd
    have hdn2 : d < a.tmps.size := by rw [h.tz]; exact hdn
    refine ⟨h.I.thenExt hu, by simpa using h.sz, h.df, by simpa [Act.put] using h.tz, fun t ht => ?_, fun j oj e hj hl hdj => ?_⟩
    · rw [put_get a d v t hdn2, if_neg (fun e => ht i o hi (by rw [getD_set _ _ _ hil, if_pos rfl]) (by rw [hd, e]))]
      exact h.old t (fun j oj hj hl => ht j oj hj (by rw [getD_set _ _ _ hil]; split <;> first | rfl | exact hl))
    · rw [getD_set _ _ _ hil] at hl
      split at hl
      · rename_i e1
        subst e1
        rw [hi] at hj
        cases hj
        rw [hd] at hdj
        cases hdj
        rw [eval_of_get (show (a.put (some d) v).tmps[d]? = some v by rw [put_get a d v d hdn2, if_pos rfl])]
        exact hv
      · rename_i e1
        rw [eval_congr (show (a.put (some d) v).tmps[e]? = a.tmps[e]? by rw [put_get a d v e hdn2, if_neg (fun e2 => hne j oj hj (fun e3 => e1 e3.symm) (by rw [hdj, e2]))])]
        exact hm _ _ _ _ (h.new j oj e hj hl hdj) hu
theorem count_lt {α : Type} (p q : α → Bool) : ∀ (l : List α), (∀ x, q x = true → p x = true) → (∃ x ∈ l, p x = true ∧ q x = false) → l.countP q < l.countP p
  | [], _, ⟨x, hx, _⟩ => by cases hx
  | y :: l, h, ⟨x, hx, h1, h2⟩ => by
    have le : l.countP q ≤ l.countP p := List.countP_mono_left (fun x _ => h x)
    rcases List.mem_cons.1 hx with e | hx
    · subst e
      rw [List.countP_cons_of_neg (by simp [h2]), List.countP_cons_of_pos h1]
      omega
    · have ih := count_lt p q l h ⟨x, hx, h1, h2⟩
      rw [List.countP_cons, List.countP_cons]
      by_cases hq : q y = true
      · rw [if_pos hq, if_pos (h y hq)]; omega
      · rw [if_neg hq]; omega
theorem any_typed {l : List Oper} {w0 : World} {Φ : Nat → Value → World → Prop} {a0 : Act} {Q : Exit → Act → World → Prop} (hm : ∀ j v w w', Φ j v w → Ext w w' → Φ j v w') (ho : onceB l a0.tmps.size = true)
    (spec : ∀ i o, l[i]? = some o → OpSpec P l w0 Φ a0 i o) (hQ : ∀ listed a w, RJ l w0 Φ a0 listed a w → Region.ready .any l.toArray listed = [] → Q .normal a w) :
    ∀ (n : Nat) (listed : Array Bool) (a : Act) (w : World), RJ l w0 Φ a0 listed a w → (List.range l.length).countP (fun i => !listed.getD i true) ≤ n → wpAny P .any l.toArray Q n listed a w := by
  intro n
  induction n with
  | zero =>
    intro listed a w h hc
    have hr : Region.ready .any l.toArray listed = [] := by
      apply List.eq_nil_iff_forall_not_mem.2
      intro j hj
      obtain ⟨h1, o, h2, _⟩ := mem_ready.1 hj
      have hjl : j < l.length := by simpa using (Array.getElem?_eq_some_iff.1 h2).1
      have : 0 < (List.range l.length).countP (fun i => !listed.getD i true) := List.countP_pos_iff.2 ⟨j, List.mem_range.2 hjl, by simp [h1]⟩
      omega
    exact ⟨hr, hQ listed a w h hr⟩
  | succ n ih =>
    intro listed a w h hc
    refine ⟨fun hr => hQ listed a w h hr, fun i hi => ?_⟩
    obtain ⟨h1, o, h2, h3⟩ := mem_ready.1 hi
    have hil : l[i]? = some o := by simpa using h2
    have hlt : i < l.length := (List.getElem?_eq_some_iff.1 hil).1
    have hc2 : (List.range l.length).countP (fun j => !(listed.setIfInBounds i true).getD j true) ≤ n := by
      have := count_lt (fun j => !listed.getD j true) (fun j => !(listed.setIfInBounds i true).getD j true) (List.range l.length) (fun j hj => by
        by_cases e : i = j
        · subst e; simp [show i < listed.size by rw [h.sz]; exact hlt] at hj
        · rw [getD_set_ne true e] at hj; exact hj) ⟨i, List.mem_range.2 hlt, by simp [h1], by simp [show i < listed.size by rw [h.sz]; exact hlt]⟩
      omega
    have sp := spec i o hil a w h.I (fun t ht => eval_congr (h.old t (fun j o' hj _ => ht o' (List.mem_of_getElem? hj)))) (fun j o' d hj hon hd => by
      obtain ⟨e, he, rfl⟩ := List.mem_map.1 hon
      obtain ⟨he1, he2⟩ := List.mem_filter.1 he
      exact h.new _ o' d hj (h3 e (by simpa using he1) he2) hd)
    unfold wpOp
    simp only [h2]
    split
    · rename_i hw
      rw [if_pos hw] at sp
      left
      unfold Oper.wp
      generalize (execOp a.eval o).run P w = r at sp ⊢
      cases r with
      | ok nx w' =>
        cases nx <;> simp only [OutRes] at sp <;> simp only [Oper.upon]
        case value u => exact ih _ _ _ (h.step hm ho hil sp.1 sp.2) hc2
        case enter f args => exact sp.mono fun e w'' ⟨v, he, h4, h5⟩ => by subst he; exact ih _ _ _ (h.step hm ho hil h4 h5) hc2
      | halt x w' => simp only [OutRes] at sp
    · rename_i hw
      rw [if_neg hw] at sp
      exact ih _ _ _ (h.step hm ho hil (Upd.refl _ _) sp) hc2
/-- The frame behind the region. -/
def putAll (v : Nat → Value) : List Oper → Nat → Act → Act
  | [], _, a => a
  | o :: l, k, a => putAll v l (k + 1) (a.put o.dst (v k))
theorem putAll_df (v : Nat → Value) : ∀ (l : List Oper) (k : Nat) (a : Act), (putAll v l k a).defers = a.defers ∧ (putAll v l k a).tmps.size = a.tmps.size
  | [], _, _ => ⟨rfl, rfl⟩
  | o :: l, k, a => by
    obtain ⟨h1, h2⟩ := putAll_df v l (k + 1) (a.put o.dst (v k))
    refine ⟨h1.trans ?_, h2.trans ?_⟩
    · cases o.dst <;> rfl
    · cases o.dst <;> simp [Act.put]
theorem putAll_old (v : Nat → Value) (t : Nat) : ∀ (l : List Oper) (k : Nat) (a : Act), (∀ o ∈ l, o.dst ≠ some t) → (putAll v l k a).tmps[t]? = a.tmps[t]?
  | [], _, _, _ => rfl
  | o :: l, k, a, h => by
    refine (putAll_old v t l (k + 1) (a.put o.dst (v k)) (fun o' ho' => h o' (by simp [ho']))).trans ?_
    have := h o (by simp)
    cases hd : o.dst with
    | none => rfl
    | some d => exact Array.getElem?_setIfInBounds_ne (fun e => this (by rw [hd, e]))
theorem putAll_new (v : Nat → Value) (t : Nat) : ∀ (l : List Oper) (k : Nat) (a : Act) (j : Nat) (o : Oper), l[j]? = some o → o.dst = some t → t < a.tmps.size → (∀ j' o', l[j']? = some o' → j' ≠ j → o'.dst ≠ some t) → (putAll v l k a).tmps[t]? = some (v (k + j))
  | [], _, _, _, _, h, _, _, _ => by simp at h
  | o0 :: l, k, a, 0, o, h, hd, ht, hn => by
    have e : o0 = o := by simpa using h
    subst e
    refine (putAll_old v t l (k + 1) _ (fun o' ho' => ?_)).trans ?_
    · obtain ⟨i, hi, rfl⟩ := List.mem_iff_getElem.1 ho'
      exact hn (i + 1) _ (by simp [hi]) (by omega)
    · rw [hd, put_get a t (v k) t ht, if_pos rfl]; rfl
  | o0 :: l, k, a, j + 1, o, h, hd, ht, hn => by
    have h2 : l[j]? = some o := by simpa using h
    have hs : (a.put o0.dst (v k)).tmps.size = a.tmps.size := by cases o0.dst <;> simp [Act.put]
    have := putAll_new v t l (k + 1) (a.put o0.dst (v k)) j o h2 hd (by rw [hs]; exact ht) (fun j' o' h3 h4 => hn (j' + 1) o' (by simpa using h3) (by omega))
    rw [show k + (j + 1) = k + 1 + j by omega]
    exact this
/-- Who waits, waits for one that stands ahead in the text. -/
def backB (l : List Oper) : Bool := (List.range l.length).all fun i => match l[i]? with | some o => (afterOn o).all (fun j => decide (j < i)) | none => true
theorem all_listed {l : List Oper} {listed : Array Bool} (hs : listed.size = l.length) (hb : backB l = true) (hr : Region.ready .any l.toArray listed = []) : ∀ i, i < l.length → listed.getD i false = true := by
  intro i
  induction i using Nat.strongRecOn with
  | _ i ih =>
    intro hi
    rcases Bool.eq_false_or_eq_true (listed.getD i false) with h | h
    · exact h
    · exfalso
      have ho : l[i]? = some l[i] := List.getElem?_eq_getElem hi
      have hb1 := List.all_eq_true.1 hb i (List.mem_range.2 hi)
      simp only [ho] at hb1
      have : i ∈ Region.ready .any l.toArray listed := mem_ready.2 ⟨by simp [show i < listed.size by omega] at h ⊢; exact h, l[i], by simp, fun e he hbi => by
        have h1 := List.all_eq_true.1 hb1 e.on (List.mem_map.2 ⟨e, List.mem_filter.2 ⟨by simpa using he, hbi⟩, rfl⟩)
        simp only [decide_eq_true_eq] at h1
        exact ih e.on h1 (by omega)⟩
      rw [hr] at this
      cases this
/-- The region, by what its slots hold. -/
theorem region_typed {id : Nat} {Q : Exit → Act → World → Prop} {a : Act} {w : World} {l : List Oper} (Φ : Nat → Value → World → Prop) (hmix : P.follows .mixedOrders = true) (hm : ∀ j v w w', Φ j v w → Ext w w' → Φ j v w') (ho : onceB l a.tmps.size = true)
    (hb : backB l = true) (spec : ∀ i o, l[i]? = some o → OpSpec P l w Φ a i o)
    (h : ∀ (v : Nat → Value) w', Ext w w' → (∀ i o d, l[i]? = some o → o.dst = some d → Φ i (v i) w') → Q .normal (putAll v l 0 a) w') : (Code.region id l.toArray true).wp P Q a w := by
  refine wp_region_any hmix ?_
  refine any_typed (w0 := w) (Φ := Φ) (a0 := a) hm ho spec ?_ _ _ _ _ ⟨(Upd.refl none' w).drew, by simp, rfl, rfl, fun _ _ => rfl, fun i o d _ hl => by rw [Array.getD_eq_getD_getElem?, Array.getElem?_replicate] at hl; split at hl <;> simp at hl⟩ ?_
  · intro listed a' w' hJ hr
    have hl := all_listed hJ.sz hb hr
    have key : ∃ v : Nat → Value, ∀ (i : Nat) (o : Oper) (d : Tmp), l[i]? = some o → o.dst = some d → v i = a'.eval (.tmp d) := ⟨fun i => match (l[i]?).bind (·.dst) with | some d => a'.eval (.tmp d) | none => undef, fun i o d hi hd => by simp [hi, hd]⟩
    obtain ⟨v, hv⟩ := key
    have e : a' = putAll v l 0 a := by
      obtain ⟨d1, d2⟩ := putAll_df v l 0 a
      have ht : a'.tmps = (putAll v l 0 a).tmps := by
        apply Array.ext_getElem?
        intro t
        by_cases hx : ∃ (i : Nat) (o : Oper), l[i]? = some o ∧ o.dst = some t
        · obtain ⟨i, o, hi, hd⟩ := hx
          obtain ⟨h1, h2⟩ := once_spec ho hi hd
          rw [putAll_new v t l 0 a i o hi hd h1 h2, Nat.zero_add, hv i o t hi hd]
          have h3 : t < a'.tmps.size := by rw [hJ.tz]; exact h1
          rw [Array.getElem?_eq_getElem h3]
          show _ = some (a'.tmps.getD t undef)
          rw [Array.getD_eq_getD_getElem?, Array.getElem?_eq_getElem h3]; rfl
        · have hx : ∀ (i : Nat) (o : Oper), l[i]? = some o → o.dst ≠ some t := fun i o hi hd => hx ⟨i, o, hi, hd⟩
          rw [putAll_old v t l 0 a (fun o ho' => by
            obtain ⟨i, hi, rfl⟩ := List.mem_iff_getElem.1 ho'
            exact hx i _ (List.getElem?_eq_getElem hi))]
          exact hJ.old t (fun i o hi _ => hx i o hi)
      cases a'
      cases hp : putAll v l 0 a
      rw [hp] at ht d1
      simp only [Act.mk.injEq]
      exact ⟨ht, hJ.df.trans d1.symm⟩
    rw [e]
    refine h v w' hJ.I (fun i o d hi hd => ?_)
    rw [hv i o d hi hd]
    exact hJ.new i o d hi (hl i (List.getElem?_eq_some_iff.1 hi).1) hd
  · refine Nat.le_trans List.countP_le_length ?_
    simp
end
end Go.Proofs.YtkdhjighomnooaaDoor
