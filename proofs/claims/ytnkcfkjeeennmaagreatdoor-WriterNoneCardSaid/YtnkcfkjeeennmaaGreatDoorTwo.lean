/- A region that draws its order: operations that only read, one that makes a variable, and a last one that waits for them all. Nothing of the program. emit.Load, Size, Root by contracts. -/
import Derived.Test.YtnkcfkjeeennmaaGreatDoorShaU
import Derived.Test.YtnkcfkjeeennmaaGreatDoorBuildOne
namespace Go.Proofs.YtnkcfkjeeennmaaGreatDoor
open Go.RowKit Go.Lib


section
variable {P : Program} {ops : Array Oper} {md : Region.Mode} {W0 W1 : World}
def isAl (o : Oper) : Bool := match o.op with | .alloc _ => true | _ => false
/-- It reads, in both worlds alike; or it makes the second world out of the first. -/
def YF (P : Program) (ops : Array Oper) (W0 W1 : World) (o : Oper) (v : Value) (a : Act) : Prop :=
  (Region.wanted o (yielded ops a.tmps) = true ∧ (execOp a.eval o).run P W0 = .ok (.value v) (if isAl o then W1 else W0) ∧ (isAl o = false → (execOp a.eval o).run P W1 = .ok (.value v) W1)) ∨ (Region.wanted o (yielded ops a.tmps) = false ∧ v = undef ∧ isAl o = false)
/-- The walk in the text's order. -/
def wpF (P : Program) (ops : Array Oper) (W0 W1 : World) (Q : Act → Prop) : List Oper → Act → Prop
  | [], a => Q a
  | o :: rest, a => ∃ v, YF P ops W0 W1 o v a ∧ wpF P ops W0 W1 Q rest (a.put o.dst v)
/-- Any order. -/
def anyF (P : Program) (md : Region.Mode) (ops : Array Oper) (W0 W1 : World) (Q : Act → Prop) : Nat → Array Bool → Act → Prop
  | 0, listed, a => Region.ready md ops listed = [] ∧ Q a
  | n + 1, listed, a => (Region.ready md ops listed = [] → Q a) ∧
      ∀ i ∈ Region.ready md ops listed, ∃ o v, ops[i]? = some o ∧ YF P ops W0 W1 o v a ∧ anyF P md ops W0 W1 Q n (listed.setIfInBounds i true) (a.put o.dst v)
theorem YF.of_put {o : Oper} {v : Value} {a : Act} {d : Option Tmp} {u : Value} (hs : ∀ cs b, o.op ≠ .select cs b) (h : ∀ t, d = some t → t ∉ o.looksAt ops) : YF P ops W0 W1 o v (a.put d u) ↔ YF P ops W0 W1 o v a := by
  unfold YF
  rw [execOp_put o hs a d u h, wanted_put o a d u h]
theorem YF.wp {o : Oper} {i : Nat} {v : Value} {a : Act} {b : Bool} (hi : ops[i]? = some o) (hy : YF P ops W0 W1 o v a) (hb : isAl o = true → b = false) {K : Act → World → Prop} {Q : Exit → Act → World → Prop} (h : K (a.put o.dst v) (if b || isAl o then W1 else W0)) : wpOp P ops Q i K a (if b then W1 else W0) := by
  unfold wpOp
  simp only [hi]
  rcases hy with ⟨h1, h2, h3⟩ | ⟨h1, rfl, h3⟩
  · rw [if_pos h1]
    left
    unfold Oper.wp
    cases hal : isAl o with
    | true =>
      rw [hb hal] at h ⊢
      rw [hal] at h h2
      simp only [Bool.false_eq_true, if_false, Bool.or_true, if_true] at h h2 ⊢
      rw [h2]
      exact h
    | false =>
      rw [hal] at h h2
      cases b
      · simp only [Bool.false_eq_true, if_false, Bool.or_self] at h h2 ⊢
        rw [h2]
        exact h
      · simp only [Bool.or_false, if_true] at h ⊢
        rw [h3 hal]
        exact h
  · rw [h1]
    rw [h3, Bool.or_false] at h
    exact h
/-- What may go first may be taken first. -/
theorem anyF_first {Q : Act → Prop} {i : Nat} {oi : Oper} {v : Value} (hi : ops[i]? = some oi) (hsel : ∀ (j : Nat) (o : Oper) cs b, ops[j]? = some o → o.op ≠ .select cs b) :
    ∀ (n : Nat) (listed : Array Bool) (a : Act),
      (∀ j oj, ops[j]? = some oj → j ≠ i → listed.getD j true = false → (∀ e ∈ oj.after, Region.binds md e = true → e.on ≠ i) → oi.apart ops oj = true) →
      i ∈ Region.ready md ops listed → YF P ops W0 W1 oi v a → anyF P md ops W0 W1 Q n (listed.setIfInBounds i true) (a.put oi.dst v) → anyF P md ops W0 W1 Q (n + 1) listed a := by
  intro n
  induction n with
  | zero =>
    intro listed a _ hr hy H
    refine ⟨fun h => (by rw [h] at hr; cases hr), fun j hj => ?_⟩
    by_cases hji : j = i
    · subst hji; exact ⟨oi, v, hi, hy, H⟩
    · have := ready_mono hj hji
      rw [H.1] at this
      cases this
  | succ n ih =>
    intro listed a hfree hr hy H
    refine ⟨fun h => (by rw [h] at hr; cases hr), fun j hj => ?_⟩
    by_cases hji : j = i
    · subst hji; exact ⟨oi, v, hi, hy, H⟩
    · obtain ⟨oj, u, hoj, hyj, hkj⟩ := H.2 j (ready_mono hj hji)
      obtain ⟨hjun, oj', hoj', hall⟩ := mem_ready.1 hj
      obtain rfl : oj' = oj := Option.some.inj (hoj'.symm.trans hoj)
      have hnot : ∀ e ∈ oj'.after, Region.binds md e = true → e.on ≠ i := fun e he hb heq => by
        have h1 := hall e he hb
        have h0 := (mem_ready.1 hr).1
        rw [heq] at h1
        rcases Nat.lt_or_ge i listed.size with h' | h'
        · simp [h'] at h0 h1; rw [h0] at h1; cases h1
        · simp [Array.getElem?_eq_none h'] at h1
      obtain ⟨a1, a2, a3⟩ := Oper.apart_spec (hfree j oj' hoj hji hjun hnot)
      have hfree' : ∀ k ok, ops[k]? = some ok → k ≠ i → (listed.setIfInBounds j true).getD k true = false →
          (∀ e ∈ ok.after, Region.binds md e = true → e.on ≠ i) → oi.apart ops ok = true := fun k ok hk hki hun hno => by
        refine hfree k ok hk hki ?_ hno
        by_cases hjk : j = k
        · subst hjk; exact hjun
        · rw [getD_set_ne true hjk] at hun; exact hun
      refine ⟨oj', u, hoj, (YF.of_put (hsel j oj' · · hoj) a1).1 hyj, ih (listed.setIfInBounds j true) (a.put oj'.dst u) hfree' (ready_mono hr (Ne.symm hji)) ((YF.of_put (hsel i oi · · hi) a3).2 hy) ?_⟩
      rw [Array.setIfInBounds_comm _ _ hji, Act.put_comm a u v (fun d hd e => a2 d e hd)]
      exact hkj
theorem anyF_lex {Q : Act → Prop} (hs : Region.noSelect ops = true) : ∀ (l : List Oper) (k : Nat) (listed : Array Bool) (a : Act), (∀ j, l[j]? = ops[k + j]?) →
    Region.lexFrom md ops l.length k listed = true → wpF P ops W0 W1 Q l a → anyF P md ops W0 W1 Q l.length listed a
  | [], _, _, _, _, hB, h => ⟨by simpa [Region.lexFrom] using hB, h⟩
  | o :: l, k, listed, a, hl, hB, h => by
    have h0 : ops[k]? = some o := by simpa using (hl 0).symm
    simp only [List.length_cons, Region.lexFrom, Bool.and_eq_true] at hB
    obtain ⟨⟨hr, hf⟩, hB'⟩ := hB
    obtain ⟨v, hy, hK⟩ := h
    exact anyF_first h0 (Region.noSelect_spec hs) l.length listed a (Region.free_spec h0 hf) (by simpa using hr) hy
      (anyF_lex hs l (k + 1) _ _ (fun j => by have := hl (j + 1); simpa [Nat.add_assoc, Nat.add_comm 1 j] using this) hB' hK)
end
section
variable {P : Program}
theorem any_of_F {l : List Oper} {n p : Nat} {W0 W1 : World} {Qh : Act → Prop} {Q : Exit → Act → World → Prop} (hln : l.length = n + 1) (hb : backB (l.take n) = true) (hg : guardB (l.take n) = true) (ht : tailB l n = true) (hpn : p < n) (hp : ∀ i o, l[i]? = some o → i < n → (isAl o = true ↔ i = p))
    (hQ : ∀ listed a, Qh a → listed.size = l.length → (∀ i, i < n → listed.getD i false = true) → listed.getD n false = false → wpAny P .any l.toArray Q 1 listed a W1) :
    ∀ (c : Nat) (listed : Array Bool) (a : Act), listed.size = l.length → listed.getD n false = false → (∀ i o, l[i]? = some o → listed.getD i false = true → ∀ j ∈ afterOn o, listed.getD j false = true) →
      (List.range n).countP (fun i => !listed.getD i true) = c → anyF P .any (l.take n).toArray W0 W1 Qh c ((listed.toList.take n).toArray) a → wpAny P .any l.toArray Q (c + 1) listed a (if listed.getD p false then W1 else W0) := by
  have htl : (l.take n).length = n := by rw [List.length_take]; omega
  have hts : ∀ listed : Array Bool, listed.size = l.length → ((listed.toList.take n).toArray).size = (l.take n).length := fun listed h => by
    rw [htl]; simp; omega
  intro c
  induction c with
  | zero =>
    intro listed a hs hlo hdc hc h
    rw [Nat.zero_add]
    have hall : ∀ i, i < n → listed.getD i false = true := fun i hi => by
      have := all_listed (hts listed hs) hb h.1 i (by omega)
      rwa [take_getD _ _ _ _ hi] at this
    rw [hall p hpn, if_pos rfl]
    exact hQ listed a h.2 hs hall hlo
  | succ c ih =>
    intro listed a hs hlo hdc hc h
    have hex : ∃ i, i < n ∧ listed.getD i true = false := by
      have : 0 < (List.range n).countP (fun i => !listed.getD i true) := by omega
      obtain ⟨i, hi, h1⟩ := List.countP_pos_iff.1 this
      exact ⟨i, List.mem_range.1 hi, by simpa using h1⟩
    have hlow := tail_low (by omega) ht hs hdc hex
    have hready : ∀ i, i ∈ Region.ready .any l.toArray listed → i ∈ Region.ready .any (l.take n).toArray ((listed.toList.take n).toArray) := fun i hi => by
      have hin := hlow i hi
      obtain ⟨h1, o, h2, h3⟩ := mem_ready.1 hi
      refine mem_ready.2 ⟨by rw [take_getD _ _ _ _ hin]; exact h1, o, by simpa [List.getElem?_take, hin] using h2, fun e he hbi => ?_⟩
      have hoi : (l.take n)[i]? = some o := by rw [List.getElem?_take, if_pos hin]; simpa using h2
      have hb1 := List.all_eq_true.1 hb i (List.mem_range.2 (by omega))
      simp only [hoi] at hb1
      have hb2 := List.all_eq_true.1 hb1 e.on (List.mem_map.2 ⟨e, List.mem_filter.2 ⟨by simpa using he, hbi⟩, rfl⟩)
      simp only [decide_eq_true_eq] at hb2
      rw [take_getD _ _ _ _ (by omega)]
      exact h3 e he hbi
    rw [show c + 1 + 1 = (c + 1) + 1 by omega]
    refine ⟨fun hr => ?_, fun i hi => ?_⟩
    · exfalso
      have hr2 : Region.ready .any (l.take n).toArray ((listed.toList.take n).toArray) = [] := by
        apply Classical.byContradiction
        intro hne
        obtain ⟨i, t, hit⟩ := List.exists_cons_of_ne_nil hne
        have hi : i ∈ Region.ready .any (l.take n).toArray ((listed.toList.take n).toArray) := by rw [hit]; simp
        obtain ⟨h1, o, h2, h3⟩ := mem_ready.1 hi
        have hin : i < n := by
          have := (List.getElem?_eq_some_iff.1 (show (l.take n)[i]? = some o by simpa using h2)).1
          omega
        have hoi : (l.take n)[i]? = some o := by simpa using h2
        have : i ∈ Region.ready .any l.toArray listed := mem_ready.2 ⟨by rw [take_getD _ _ _ _ hin] at h1; exact h1, o, by rw [List.getElem?_take, if_pos hin] at hoi; simpa using hoi, fun e he hbi => by
          have hb1 := List.all_eq_true.1 hb i (List.mem_range.2 (by omega))
          simp only [hoi] at hb1
          have hb2 := List.all_eq_true.1 hb1 e.on (List.mem_map.2 ⟨e, List.mem_filter.2 ⟨by simpa using he, hbi⟩, rfl⟩)
          simp only [decide_eq_true_eq] at hb2
          have := h3 e he hbi
          rwa [take_getD _ _ _ _ (by omega)] at this⟩
        rw [hr] at this
        cases this
      obtain ⟨j, hj, hjf⟩ := hex
      have := all_listed (hts listed hs) hb hr2 j (by omega)
      rw [take_getD _ _ _ _ hj] at this
      have hs2 : j < listed.size := by omega
      simp [hs2] at this hjf
      rw [hjf] at this
      cases this
    · have hin := hlow i hi
      have hq := h.2 i (hready i hi)
      obtain ⟨h1, o, h2, h3⟩ := mem_ready.1 hi
      have hil : l[i]? = some o := by simpa using h2
      have hit : (l.take n)[i]? = some o := by rw [List.getElem?_take, if_pos hin]; exact hil
      have hlt : i < l.length := by omega
      have hs1 : i < listed.size := by omega
      have hnext : ∀ a', anyF P .any (l.take n).toArray W0 W1 Qh c (((listed.toList.take n).toArray).setIfInBounds i true) a' → wpAny P .any l.toArray Q (c + 1) (listed.setIfInBounds i true) a' (if (listed.setIfInBounds i true).getD p false then W1 else W0) := fun a' h' => by
        refine ih _ _ (by simpa using hs) (by rw [getD_set_ne false (by omega)]; exact hlo) (fun k ok hk hl j hj => ?_) ?_ (by rw [take_set]; exact h')
        · rw [getD_set _ _ _ hs1] at hl ⊢
          split
          · rfl
          · split at hl
            · rename_i e
              subst e
              rw [hil] at hk
              cases hk
              obtain ⟨e, he, rfl⟩ := List.mem_map.1 hj
              obtain ⟨he1, he2⟩ := List.mem_filter.1 he
              exact h3 e (by simpa using he1) he2
            · exact hdc k ok hk hl j hj
        · have hsep : ∀ (L : List Nat), L.Nodup → i ∈ L → L.countP (fun j => !listed.getD j true) = L.countP (fun j => !(listed.setIfInBounds i true).getD j true) + 1 := by
            intro L hnd hmem
            induction L with
            | nil => cases hmem
            | cons x L ihL =>
              obtain ⟨hx, hnd2⟩ := List.nodup_cons.1 hnd
              rw [List.countP_cons, List.countP_cons]
              by_cases hxi : x = i
              · subst hxi
                have hh : listed.getD x true = false := by simpa using h1
                have h2' : (listed.setIfInBounds x true).getD x true = true := by simp [hs1]
                have hrest : L.countP (fun j => !listed.getD j true) = L.countP (fun j => !(listed.setIfInBounds x true).getD j true) := by
                  apply List.countP_congr
                  intro j hj
                  rw [getD_set_ne true (show x ≠ j from fun e => hx (e ▸ hj))]
                rw [hrest, hh, h2']; simp
              · have hmem2 : i ∈ L := by rcases List.mem_cons.1 hmem with e | e; exact absurd e.symm hxi; exact e
                rw [ihL hnd2 hmem2, getD_set_ne true (show i ≠ x from fun e => hxi e.symm)]
                omega
          have := hsep (List.range n) List.nodup_range (List.mem_range.2 hin)
          omega
      obtain ⟨o', v, ho', hy, hk⟩ := hq
      have ho2 : (l.take n)[i]? = some o' := by simpa using ho'
      obtain rfl : o' = o := Option.some.inj (ho2.symm.trans hit)
      have hy2 : YF P l.toArray W0 W1 o' v a := by
        unfold YF at hy ⊢
        rw [wanted_take (by omega) hg (List.mem_of_getElem? hit)] at hy
        exact hy
      have hpi := hp i o' hil hin
      have hun : listed.getD i false = false := by
        simp [hs1] at h1 ⊢; exact h1
      refine hy2.wp h2 (fun e => by rw [← hpi.1 e]; exact hun) ?_
      have hnk := hnext _ hk
      have hflag : (listed.setIfInBounds i true).getD p false = (listed.getD p false || isAl o') := by
        by_cases e : i = p
        · rw [hpi.2 e, Bool.or_true, ← e, getD_set _ _ _ hs1, if_pos rfl]
        · have hf : isAl o' = false := by cases hal : isAl o' with
            | true => exact absurd (hpi.1 hal) e
            | false => rfl
          rw [hf, Bool.or_false, getD_set_ne false e]
      rw [hflag] at hnk
      exact hnk
/-- The region: n operations of which one makes a variable and the others read, and a last one. -/
theorem region_two {id : Nat} {Q : Exit → Act → World → Prop} {a : Act} {w : World} {l : List Oper} (n p : Nat) (W1 : World) (hmix : P.follows .mixedOrders = true) (hln : (l.length == n + 1) = true) (hB : Region.lexB .any (l.take n).toArray = true)
    (hb : backB l = true) (hg : guardB (l.take n) = true) (ht : tailB l n = true) (hpB : ((List.range n).all fun i => match l[i]? with | some o => isAl o == decide (i = p) | none => true) = true) (hpn : p < n)
    (h : wpF P (l.take n).toArray w.drew W1 (fun a' => wpList P l.toArray Q (l.drop n) a' W1) (l.take n) a) : (Code.region id l.toArray true).wp P Q a w := by
  have hln : l.length = n + 1 := by simpa using hln
  have htl : (l.take n).length = n := by rw [List.length_take]; omega
  have hb' : backB (l.take n) = true := by
    refine List.all_eq_true.2 (fun i hi => ?_)
    have hin : i < n := by have := List.mem_range.1 hi; omega
    have := List.all_eq_true.1 hb i (List.mem_range.2 (by omega))
    rw [List.getElem?_take, if_pos hin]
    exact this
  simp only [Region.lexB, Bool.and_eq_true] at hB
  have hq := anyF_lex (md := .any) hB.1 (l.take n) 0 (Array.replicate n false) a (by simp) (by have := hB.2; simpa [htl, hln] using this) h
  refine wp_region_any hmix ?_
  have rep : ∀ i, (Array.replicate l.toArray.size false).getD i false = false := fun i => by rw [Array.getD_eq_getD_getElem?, Array.getElem?_replicate]; split <;> rfl
  have hpp : ∀ i o, l[i]? = some o → i < n → (isAl o = true ↔ i = p) := fun i o ho hi => by
    have := List.all_eq_true.1 hpB i (List.mem_range.2 hi)
    simp only [ho, beq_iff_eq] at this
    rw [this]; simp
  have main := any_of_F (P := P) (W0 := w.drew) (W1 := W1) (p := p) (Qh := fun a' => wpList P l.toArray Q (l.drop n) a' W1) (Q := Q) hln hb' hg ht hpn hpp ?_ n (Array.replicate l.toArray.size false) a (by simp) (rep n) (fun i o _ hl => by rw [rep] at hl; cases hl) ?_ ?_
  · rw [show n + 1 = l.toArray.size by simp; omega, rep, if_neg (by simp)] at main
    exact main
  · intro listed a' hk hs hall hlo
    have hon : l[n]? = some (l[n]'(by omega)) := List.getElem?_eq_getElem (by omega)
    have hdrop : l.drop n = [l[n]'(by omega)] := by
      rw [List.drop_eq_getElem_cons (by omega), List.drop_of_length_le (by omega)]
    have hk2 := hk
    rw [hdrop] at hk2
    clear hk
    generalize l[n]'(by omega) = o at hon hk2 hdrop
    have hns : n < listed.size := by omega
    have hmem : n ∈ Region.ready .any l.toArray listed := mem_ready.2 ⟨by simp [hns] at hlo ⊢; exact hlo, o, by simpa using hon, fun e he hbi => by
      have hb1 := List.all_eq_true.1 hb n (List.mem_range.2 (by omega))
      simp only [hon] at hb1
      have hb2 := List.all_eq_true.1 hb1 e.on (List.mem_map.2 ⟨e, List.mem_filter.2 ⟨by simpa using he, hbi⟩, rfl⟩)
      simp only [decide_eq_true_eq] at hb2
      exact hall e.on hb2⟩
    have honly : ∀ i, i ∈ Region.ready .any l.toArray listed → i = n := fun i hi => by
      obtain ⟨h1, o', h2, h3⟩ := mem_ready.1 hi
      have hlt : i < l.length := (List.getElem?_eq_some_iff.1 (show l[i]? = some o' by simpa using h2)).1
      rcases Nat.lt_or_ge i n with h4 | h4
      · have := hall i h4
        have hs1 : i < listed.size := by omega
        simp [hs1] at this h1
        rw [h1] at this
        cases this
      · omega
    have hend : Region.ready .any l.toArray (listed.setIfInBounds n true) = [] := by
      apply Classical.byContradiction
      intro hne
      obtain ⟨i, t, hit⟩ := List.exists_cons_of_ne_nil hne
      have hi : i ∈ Region.ready .any l.toArray (listed.setIfInBounds n true) := by rw [hit]; simp
      obtain ⟨h1, o', h2, _⟩ := mem_ready.1 hi
      have hlt : i < l.length := (List.getElem?_eq_some_iff.1 (show l[i]? = some o' by simpa using h2)).1
      by_cases hni : n = i
      · subst hni
        simp [hns] at h1
      · rw [getD_set_ne true hni] at h1
        have := hall i (by omega)
        have hs1 : i < listed.size := by omega
        simp [hs1] at this h1
        rw [h1] at this
        cases this
    refine ⟨fun hr => (by rw [hr] at hmem; cases hmem), fun i hi => ?_⟩
    obtain rfl := honly i hi
    unfold wpList at hk2
    unfold wpOp
    simp only [List.getElem?_toArray, hon]
    split
    · rename_i hw
      rw [if_pos hw] at hk2
      exact hk2.imp (Oper.wp_mono (fun a w h => ⟨hend, h⟩)) (fun h => h)
    · rename_i hw
      rw [if_neg hw] at hk2
      exact ⟨hend, hk2⟩
  · have : ∀ i ∈ List.range n, (!(Array.replicate l.toArray.size false).getD i true) = true := fun i hi => by
      have hin := List.mem_range.1 hi
      rw [Array.getD_eq_getD_getElem?, Array.getElem?_replicate, if_pos (by simp; omega)]; rfl
    rw [List.countP_eq_length.2 this, List.length_range]
  · have e : (((Array.replicate l.toArray.size false).toList.take n).toArray) = Array.replicate n false := by
      simp [List.take_replicate, hln]
    rw [e, ← htl]
    rw [htl]
    rw [htl] at hq
    exact hq
/-! ### the steps -/
variable {ops : Array Oper} {W0 W1 : World} {Q : Act → Prop} {o : Oper} {rest : List Oper} {a : Act}
theorem f_read {v : Value} (hw : Region.wanted o (yielded ops a.tmps) = true) (hal : isAl o = false) (h0 : (execOp a.eval o).run P W0 = .ok (.value v) W0) (h1 : (execOp a.eval o).run P W1 = .ok (.value v) W1) (hk : wpF P ops W0 W1 Q rest (a.put o.dst v)) : wpF P ops W0 W1 Q (o :: rest) a :=
  ⟨v, .inl ⟨hw, by rw [hal]; exact h0, fun _ => h1⟩, hk⟩
theorem f_alloc {v : Value} (hw : Region.wanted o (yielded ops a.tmps) = true) (hal : isAl o = true) (h0 : (execOp a.eval o).run P W0 = .ok (.value v) W1) (hk : wpF P ops W0 W1 Q rest (a.put o.dst v)) : wpF P ops W0 W1 Q (o :: rest) a :=
  ⟨v, .inl ⟨hw, by rw [hal]; exact h0, fun e => by rw [hal] at e; cases e⟩, hk⟩
theorem f_nil (h : Q a) : wpF P ops W0 W1 Q [] a := h
theorem f_norm {l : List Oper} {a' : Act} (h : a = a') (hk : wpF P ops W0 W1 Q l a') : wpF P ops W0 W1 Q l a := h ▸ hk
end

section
variable {P : Program} {o : Oper} {a : Act}
theorem run_ix (w : World) {x ix : Operand} {t : TypeId} (ho : o.op = .indexAddr t x ix) (g off len cap k sz : Nat) (e : TypeId) (hx : a.eval x = .slice (some ⟨g, off, none⟩) len cap) (hi : a.eval ix = .int .i64 k) (hk : k < len)
    (hu : P.underlying t = some (.slice e)) (hs : (P.info? e).map (·.size) = some sz) : (execOp a.eval o).run P w = .ok (.value (.pointer (some ⟨g, off + k * sz, none⟩))) w := by
  have hadd : (⟨g, off, none⟩ : Addr).add (k * sz) = ⟨g, off + k * sz, none⟩ := by unfold Addr.add; split <;> simp_all
  cases hq : P.info? e with
  | none => simp [hq] at hs
  | some i =>
    have his : i.size = sz := by simpa [hq] using hs
    have hk2 : (0 : Int) ≤ (k : Int) ∧ (k : Int) < len := by omega
    simp [execOp, ho, hx, hi, Instr.indexAt, run_underlying hu, asIntOf, sizeOf, typeInfo, hq, his, hk2, hk, hadd]
theorem run_ld (w : World) (ty : TypeId) (x : Operand) (ho : o.op = .load ty x)
    (g off : Nat) (hx : a.eval x = .pointer (some ⟨g, off, none⟩)) (vs : List Value) {d : TypeDesc} (hu : P.underlying ty = some d) (hd : aggD d = true) (hi : (P.info? ty).map (·.size) = some vs.length)
    (hc : ∀ j v, vs[j]? = some v → w.cell? ⟨g, off + j, none⟩ = some v) : (execOp a.eval o).run P w = .ok (.value (.agg vs.toArray)) w := by
  simp only [execOp, ho, hx, Instr.loadAt, Instr.sureAddr, Sem.run_bind, Sem.run_pure, Result.andThen_ok, run_loadVar_at g off ty vs hu hd hi hc]
end
/-- A builder of n leaves, the hashes of whose whole trees are l. -/
structure BldAt (B : Nat) (w : World) (b : Nat) (lv : Value) (n : Nat) (l : List HB) : Prop where
  blk : w.heap[b]? = some (.cells #[.bool true, .int .u64 (n : Int), lv] 170 (0, 0))
  row : w.ownsRow B 30 32 lv l.length (hcells l)
  lo : B ≤ b
def fpE (b : Nat) (lv : Value) (g : Nat) : Prop := g = b ∨ lv.ownBlock = some g
theorem BldAt.upd {B : Nat} {w w' : World} {b : Nat} {lv : Value} {n : Nat} {l : List HB} {S : Nat → Prop} (h : BldAt B w b lv n l) (u : Upd S w w') (hS : ∀ g, fpE b lv g → ¬ S g) : BldAt B w' b lv n l :=
  ⟨u.blk h.blk (hS _ (.inl rfl)), ownsRow_upd h.row u (fun g hg => hS g (.inr hg)), h.lo⟩
theorem BldAt.ext {B : Nat} {w w' : World} {b : Nat} {lv : Value} {n : Nat} {l : List HB} (h : BldAt B w b lv n l) (u : Ext w w') : BldAt B w' b lv n l := h.upd u (fun _ _ => id)
theorem BldAt.low {B : Nat} {w : World} {b : Nat} {lv : Value} {n : Nat} {l : List HB} (h : BldAt B w b lv n l) : ∀ g, fpE b lv g → B ≤ g := fun g hg => by
  rcases hg with rfl | e
  · exact h.lo
  · exact (h.row.lt g e).1
set_option maxRecDepth 20000 in
set_option maxHeartbeats 4000000 in
theorem load_any (w : World) (n : Nat) (hn : n < 16777216) (A : Option Addr) (hs : List HB) (cap : Nat) (h32 : H32 hs) (hA : CellsAt w A (hcells hs)) (hp : hs.length = pop3 n) (hl : hs.length ≤ 64) :
    Calls Tryz.prog 41 #[.int .u64 n, .slice A hs.length cap] w fun e w' => ∃ b lv, e = .returned (.tuple #[.pointer (some ⟨b, 0, none⟩), .nilIface]) ∧ BldAt w.heap.size w' b lv n hs ∧ Ext w w' := by
  obtain ⟨i0, hi0, hz0, hz1, hz2⟩ := info_parts info_hash
  have C := ones64_any n hn w
  rw [← hp] at C
  have hn1 : ¬ (9223372036854775808 : Int) < n := by omega
  have HA := Lib.hid hA
  have HLN := Lib.hid (show (hcells hs).length = hs.length * 32 from hcells_len h32)
  have HO1 := Lib.hid (hcells_ones hs)
  have HM := Lib.hid (show 0 + hs.length ≤ maxLen ∧ (0 + hs.length) * 32 ≤ 140737488355328 by unfold maxLen; omega)
  clear hA h32 hp
  go_enter Tryz.func41, Tryz.ntmps41
  go_wp2_with fail
  refine C.mono ?_
  rintro e w1 ⟨rfl, rfl⟩
  go_wp2_with (at_builtin; refine wpList_appX rfl _ _ 65 rfl w.heap.size 30 i0 _ 32 32 Tryz.underlying65 hi0 hz0 hz1 hz2 rfl (by decide) (.slice none 0 0) 0 [] rfl (World.ownsRow_nil _ _ _ _) A hs.length cap (hcells hs) rfl HLN.out HA.out HO1.out HM.out.1 HM.out.2 (Nat.le_refl _) ?_; intro A' c' w2 hown hgrow hat; simp only [Nat.zero_add, List.nil_append] at hown; have HOWN := Lib.hid hown; have HU2 := Lib.hid (show Ext w w2 from (Upd.refl none' _).grown hgrow (fun k hk => by cases hk)); clear hown hgrow hat)
  go_ret2
  have X := (Upd.refl none' w2).alloc (.cells #[.bool true, .int .u64 (n : Int), .slice A' hs.length c'] 170)
  exact ⟨_, _, rfl, ⟨blk_alloc w2 _, ownsRow_upd HOWN.out X (fun _ _ => id), HU2.out.size⟩, HU2.out.trans X⟩
set_option maxRecDepth 20000 in
theorem size_any {B : Nat} {w : World} {b : Nat} {lv : Value} {n : Nat} {l : List HB} (D : BldAt B w b lv n l) :
    Calls Tryz.prog 51 #[.pointer (some ⟨b, 0, none⟩)] w fun e w' => e = .returned (.int .u64 n) ∧ w = w' := by
  have c1 : w.cell? ⟨b, 1, none⟩ = some (.int .u64 (n : Int)) := cell_of_blk D.blk 1
  clear D
  go_enter Tryz.func51, Tryz.ntmps51
  go_wp2_with fail
  go_ret
  exact ⟨rfl, rfl⟩
/-- Hashes folded from the right; of none the hash of no leaves. -/
def foldP (l : List HB) : HB := if l = [] then emptyH else cr nodeH (l.take (l.length - 1)) (l.length - 1) (l.getD (l.length - 1) [])
def RtRel (q : Nat) (l : List HB) (c : Nat) (x0 : HB) (w : World) (iv : Value) (wr : World) : Prop :=
  ∃ (k : Nat), k ≤ c ∧ iv = .int .i64 ((c : Int) - 1 - k) ∧ ∃ x, x = cr nodeH (l.take c) k x0 ∧ x.length = 32 ∧ wr.heap[q]? = some (.cells (x.map u8v).toArray 30 (0, 0)) ∧ Upd (one q) w wr
set_option maxRecDepth 20000 in
set_option maxHeartbeats 8000000 in
theorem root_any {B : Nat} {w : World} {b : Nat} {lv : Value} {n : Nat} {l : List HB} (D : BldAt B w b lv n l) (h32 : H32 l) (hl : l.length ≤ 64) (hG : 21 < w.heap.size) (htab : ShaTab w) :
    Calls Tryz.prog 52 #[.pointer (some ⟨b, 0, none⟩)] w fun e w' => e = .returned (hashV (foldP l)) ∧ Ext w w' := by
  have X0 := (Upd.refl none' w).alloc (.cells zero32 30)
  have HQ := Lib.hid (blk_alloc w (.cells zero32 30))
  have HX := Lib.hid X0
  have HT := Lib.hid (htab.ext X0)
  have HG := Lib.hid hG
  have HSZ0 := Lib.hid (show (w.alloc (.cells zero32 30)).heap.size = w.heap.size + 1 from by simp)
  obtain ⟨LA, lc, rfl⟩ := own_sl D.row
  have HD := Lib.hid (D.ext X0)
  have HRLT := Lib.hid (fun g (e : (Value.slice LA l.length lc).ownBlock = some g) => (D.row.lt g e).2)
  have c0 : (w.alloc (.cells zero32 30)).cell? ⟨b, 0, none⟩ = some (.bool true) := cell_of_blk HD.out.blk 0
  have c2 : (w.alloc (.cells zero32 30)).cell? ⟨b, 2, none⟩ = some (.slice LA l.length lc) := cell_of_blk HD.out.blk 2
  have hblt := lt_of_blk D.blk
  clear X0 htab hG D
  by_cases h0 : l = []
  · have HF := Lib.hid (show foldP l = emptyH by unfold foldP; rw [if_pos h0])
    have hl0 : l.length = 0 := by rw [h0]; rfl
    have C := empty_h (w.alloc (.cells zero32 30)) (by have := HG.out; have := HSZ0.out; omega) HT.out
    have HSL := Lib.hid (hash_size32 emptyH emptyH_len)
    have H1 := Lib.hid (u8_ones emptyH)
    have HLL := Lib.hid (show zero32.toList.length = (emptyH.map u8v).length by rw [List.length_map, emptyH_len]; rfl)
    clear h0
    go_enter Tryz.func52, Tryz.ntmps52
    go_wp2_with fail
    refine C.mono ?_
    rintro e w1 ⟨rfl, hx1⟩
    have HQ1 := Lib.hid (Ext.blk hx1 HQ.out)
    have HX1 := Lib.hid (HX.out.trans hx1)
    clear hx1 C
    go_wp2_with (refine store_whole rfl 30 _ _ rfl w.heap.size rfl (emptyH.map u8v) rfl HSL.out _ _ HQ1.out HLL.out H1.out ?_)
    have hsz : (Tryz.prog.info? 30).map (·.size) = some (emptyH.map u8v).toArray.size := by rw [HSL.out]; simp
    exact bodyPost_ret (v := .agg (emptyH.map u8v).toArray) (results_cell_row rfl _ _ w.heap.size 30 _ (0, 0) _ rfl (blk_setRow HQ1.out _) Tryz.underlying30 rfl hsz) rfl ⟨by rw [HF.out], Upd.setRow HX1.out (.inl (Nat.le_refl _)) _⟩
  · obtain ⟨c, hc⟩ : ∃ c, l.length = c + 1 := ⟨l.length - 1, by have : l.length ≠ 0 := fun e => h0 (List.length_eq_zero_iff.1 e); omega⟩
    have hne0 : ¬ ((l.length : Int) = 0) := by omega
    have hs1 : (l.length : Int) - 1 = c := by omega
    have hs2 : (l.length : Int) - 2 = c - 1 := by omega
    have hcl : c < l.length := by omega
    have hci : (c : Int) < l.length := by omega
    have hci0 : (0 : Int) ≤ c := by omega
    have hcw : IntKind.i64.wrap (c : Int) = c := IntWalk.i64_in _ (by omega)
    obtain ⟨g, cr, hLA, hgb⟩ : ∃ g cr, Value.slice LA l.length lc = .slice (some ⟨g, 0, none⟩) l.length cr ∧ B ≤ g := by
      rcases own_form HD.out.row with ⟨_, h⟩ | h
      · omega
      · exact h
    cases hLA
    have HL := Lib.hid (hash_at (CellsAt.row32 ((HD.out.ext ((Upd.refl none' _).drew)).row)) h32 c hcl)
    have HL2 := Lib.hid (hash_at (CellsAt.row32 ((HD.out.ext (((Upd.refl none' _).drew).alloc (.cells zero32 30))).row)) h32 c hcl)
    have HLL := Lib.hid (h32.getD c hcl)
    have HSX := Lib.hid (hash_size32 _ HLL.out)
    have HO1 := Lib.hid (u8_ones (l.getD c []))
    have HE := Lib.hid hc
    have HFP := Lib.hid (show foldP l = cr nodeH (l.take c) c (l.getD c []) by unfold foldP; rw [if_neg h0, hc]; simp)
    have HGL := Lib.hid (show g < w.heap.size from HRLT.out g rfl)
    have HLL32 := Lib.hid (show zero32.size = ((l.getD c []).map u8v).length by rw [List.length_map, HLL.out]; rfl)
    clear hc h0
    generalize hx0 : l.getD c [] = x0 at *
    go_enter Tryz.func52, Tryz.ntmps52
    go_wp2_with fail
    refine region_two 13 12 (((w.alloc (.cells zero32 30)).drew).alloc (.cells zero32 30)) (by kernel_rfl) (by kernel_rfl) (by kernel_rfl) (by kernel_rfl) (by kernel_rfl) (by kernel_rfl) (by kernel_rfl) (by decide) ?_
    simp only [List.take_succ_cons, List.take_zero, List.drop_succ_cons, List.drop_zero]
    refine f_read (v := .pointer (some ⟨b, 0, none⟩)) rfl rfl (by go_simp) (by go_simp) ?_
    refine f_norm (by go_simp; exact rfl) ?_
    refine f_read (v := .pointer (some ⟨b, 0, none⟩)) rfl rfl (by go_simp) (by go_simp) ?_
    refine f_norm (by go_simp; exact rfl) ?_
    refine f_read (v := .pointer (some ⟨b, 2, none⟩)) rfl rfl (by go_simp) (by go_simp) ?_
    refine f_norm (by go_simp; exact rfl) ?_
    refine f_read (v := .slice (some ⟨g, 0, none⟩) l.length lc) rfl rfl (by go_simp) (by go_simp) ?_
    refine f_norm (by go_simp; exact rfl) ?_
    refine f_read (v := .pointer (some ⟨b, 0, none⟩)) rfl rfl (by go_simp) (by go_simp) ?_
    refine f_norm (by go_simp; exact rfl) ?_
    refine f_read (v := .pointer (some ⟨b, 0, none⟩)) rfl rfl (by go_simp) (by go_simp) ?_
    refine f_norm (by go_simp; exact rfl) ?_
    refine f_read (v := .pointer (some ⟨b, 2, none⟩)) rfl rfl (by go_simp) (by go_simp) ?_
    refine f_norm (by go_simp; exact rfl) ?_
    refine f_read (v := .slice (some ⟨g, 0, none⟩) l.length lc) rfl rfl (by go_simp) (by go_simp) ?_
    refine f_norm (by go_simp; exact rfl) ?_
    refine f_read (v := .int .i64 l.length) rfl rfl (by go_simp) (by go_simp) ?_
    refine f_norm (by go_simp; exact rfl) ?_
    refine f_read (v := .int .i64 c) rfl rfl (by go_simp) (by go_simp) ?_
    refine f_norm (by go_simp; exact rfl) ?_
    refine f_read (v := .pointer (some ⟨g, 0 + c * 32, none⟩)) rfl rfl (run_ix _ rfl g 0 l.length lc c 32 30 rfl rfl hcl Tryz.underlying65 hash_size) (run_ix _ rfl g 0 l.length lc c 32 30 rfl rfl hcl Tryz.underlying65 hash_size) ?_
    refine f_norm (by go_simp; exact rfl) ?_
    refine f_read (v := .agg (x0.map u8v).toArray) rfl rfl (run_ld _ 30 _ rfl g (0 + c * 32) (by rw [Nat.zero_add]; rfl) (x0.map u8v) Tryz.underlying30 rfl HSX.out HL.out) (run_ld _ 30 _ rfl g (0 + c * 32) (by rw [Nat.zero_add]; rfl) (x0.map u8v) Tryz.underlying30 rfl HSX.out HL2.out) ?_
    refine f_norm (by go_simp; exact rfl) ?_
    refine f_alloc (v := .pointer (some ⟨w.heap.size + 1, 0, none⟩)) rfl rfl (by go_simp) ?_
    refine f_norm (by go_simp; exact rfl) ?_
    refine f_nil ?_
    refine store_new rfl 30 _ _ rfl zero32 30 (by go_simp) (x0.map u8v) rfl HSX.out HLL32.out HO1.out ?_
    have HU1 := Lib.hid ((HX.out.trans ((Upd.refl none' _).drew)).alloc (.cells (x0.map u8v).toArray 30))
    have HQ1 := Lib.hid (show ((w.alloc (.cells zero32 30)).drew.alloc (.cells (x0.map u8v).toArray 30)).heap[w.heap.size + 1]? = some (.cells (x0.map u8v).toArray 30 (0, 0)) from by have := blk_alloc ((w.alloc (.cells zero32 30)).drew) (.cells (x0.map u8v).toArray 30); rwa [show ((w.alloc (.cells zero32 30)).drew).heap.size = w.heap.size + 1 from HSZ0.out] at this)
    have HUD := Lib.hid (((Upd.refl none' (w.alloc (.cells zero32 30))).drew).alloc (.cells (x0.map u8v).toArray 30))
    have HD1 := Lib.hid (HD.out.ext HUD.out)
    have HZ1 := Lib.hid (Ext.blk HUD.out HQ.out)
    have HT1 := Lib.hid (HT.out.ext HUD.out)
    clear HUD HL HL2 HQ HD c0 c2
    generalize ((w.alloc (.cells zero32 30)).drew.alloc (.cells (x0.map u8v).toArray 30)) = w1 at *
    have c2 : w1.cell? ⟨b, 2, none⟩ = some (.slice (some ⟨g, 0, none⟩) l.length lc) := cell_of_blk HD1.out.blk 2
    have hcw2 : IntKind.i64.wrap ((c : Int) - 1) = (c : Int) - 1 := IntWalk.i64_in _ (by omega)
    go_wp2_with fail
    go_loopw [4] (fun iv wr => RtRel (w.heap.size + 1) l c x0 w1 iv wr) (fun iv _ => (RowKit.intOf iv + 1).toNat)
    case atStart => exact ⟨0, by omega, by simp, x0, by rw [cr_zero], HLL.out, HQ1.out, Upd.refl _ _⟩
    case round =>
      obtain ⟨k, hk, rfl, x, hx, hx32, hq, hu⟩ := hrel
      have HU := Lib.hid hu
      have HQQ := Lib.hid hq
      have HX32 := Lib.hid hx32
      have HXE := Lib.hid hx
      have HSXX := Lib.hid (hash_size32 x hx32)
      have HO1X := Lib.hid (u8_ones x)
      clear hu hq hx32 hx
      by_cases hlt : k < c
      · obtain ⟨m, hm⟩ : ∃ m, m = c - 1 - k := ⟨_, rfl⟩
        have him : (c : Int) - 1 - k = (m : Nat) := by omega
        have hml : m < l.length := by omega
        have hge : (0 : Int) ≤ m := by omega
        have hm64 : m ≤ 64 := by omega
        have HXN := Lib.hid (show nodeH (l.getD m []) x = cr nodeH (l.take c) (k + 1) x0 by
          rw [cr_succ nodeH _ _ _ (by rw [List.length_take]; omega), HXE.out]
          congr 1
          rw [List.length_take, show min c l.length = c by omega, ← hm, List.getD_eq_getElem?_getD, List.getD_eq_getElem?_getD, List.getElem?_take, if_pos (by omega)])
        have HY32 := Lib.hid (h32.getD m hml)
        have HDW : Hid (BldAt B wr b (.slice (some ⟨g, 0, none⟩) l.length lc) n l) := Lib.hid (HD1.out.upd HU.out (fun gg hg e => by
          have h2 : gg = w.heap.size + 1 := e
          rcases hg with hg | hg
          · have : gg = b := hg
            omega
          · have h1 : gg = g := by simpa [Value.ownBlock] using hg.symm
            have := HGL.out
            omega))
        have HA := Lib.hid (fun (w7 : World) (h7 : Ext wr w7) => hash_at (CellsAt.row32 (HDW.out.ext h7).row) h32 m hml)
        have HSY := Lib.hid (hash_size32 _ HY32.out)
        have HM := Lib.hid hm
        rw [him]
        clear hm
        generalize hy0 : l.getD m [] = y at *
        clear hy0
        have cw : ∀ w7, Ext wr w7 → w7.cell? ⟨b, 2, none⟩ = some (.slice (some ⟨g, 0, none⟩) l.length lc) := fun w7 h7 => cell_of_blk (HDW.out.ext h7).blk 2
        have HCW := Lib.hid cw
        clear cw
        go_wp2_with fail
        refine region_inv_tail 9 (fun w' => Ext wr w') (by kernel_rfl) (by kernel_rfl) (by kernel_rfl) (by kernel_rfl) (by kernel_rfl) (by kernel_rfl) ((Upd.refl none' wr).drew) ?_
        simp only [List.take_succ_cons, List.take_zero, List.drop_succ_cons, List.drop_zero]
        refine inv_move rfl rfl (.pointer (some ⟨b, 0, none⟩)) rfl ?_
        refine inv_norm (by go_simp; exact rfl) ?_
        refine inv_pure (v := .pointer (some ⟨b, 0, none⟩)) rfl (fun w7 => by go_simp) ?_
        refine inv_norm (by go_simp; exact rfl) ?_
        refine inv_pure (v := .pointer (some ⟨b, 2, none⟩)) rfl (fun w7 => by go_simp) ?_
        refine inv_norm (by go_simp; exact rfl) ?_
        refine inv_load1 rfl rfl ⟨b, 2, none⟩ (.slice (some ⟨g, 0, none⟩) l.length lc) rfl Tryz.underlying65 rfl (fun w7 h7 => HCW.out w7 h7) ?_
        refine inv_norm (by go_simp; exact rfl) ?_
        refine inv_move rfl rfl (.int .i64 m) rfl ?_
        refine inv_norm (by go_simp; exact rfl) ?_
        refine inv_indexSlice rfl rfl g 0 l.length lc m 32 30 rfl rfl hml Tryz.underlying65 hash_size ?_
        refine inv_norm (by go_simp; exact rfl) ?_
        refine inv_loadAgg rfl 30 _ rfl g (0 + m * 32) (by go_simp) (y.map u8v) Tryz.underlying30 rfl HSY.out (fun w7 h7 j v hv => HA.out w7 h7 j v hv) ?_
        refine inv_norm (by go_simp; exact rfl) ?_
        refine inv_loadAgg rfl 30 _ rfl (w.heap.size + 1) 0 rfl (x.map u8v) Tryz.underlying30 rfl HSXX.out (fun w7 h7 j v hv => blk_cells (Ext.blk h7 HQQ.out) j v hv) ?_
        refine inv_norm (by go_simp; exact rfl) ?_
        refine inv_call (v := hashV (nodeH y x)) rfl 36 [.tmp 50, .tmp 51] _ rfl body_node [hashV y, hashV x] rfl (fun w7 h7 => (node_h w7 y x HY32.out HX32.out (by have a1 := HG.out; have a2 := HU1.out.size; have a3 := HU.out.size; have a4 := (show Ext wr w7 from h7).size; omega) ((HT1.out.upd HU.out (fun e => by have e2 : 21 = w.heap.size + 1 := e; have := HG.out; omega)).ext h7)).mono (by rintro e w8 ⟨rfl, u⟩; exact ⟨rfl, h7.trans u⟩)) ?_
        refine inv_norm (by go_simp; exact rfl) ?_
        refine inv_nil ?_
        intro w5 h5
        have HN32 := Lib.hid (show (nodeH y x).length = 32 from shaB_len _)
        have HSN := Lib.hid (hash_size32 (nodeH y x) HN32.out)
        have HON := Lib.hid (u8_ones (nodeH y x))
        have HLN := Lib.hid (show (x.map u8v).length = ((nodeH y x).map u8v).length by rw [List.length_map, List.length_map, HX32.out, HN32.out])
        have HQ5 := Lib.hid (Ext.blk h5 HQQ.out)
        have H5 := Lib.hid (show Ext wr w5 from h5)
        clear h5
        go_wp2_with (refine store_whole rfl 30 _ _ rfl (w.heap.size + 1) rfl ((nodeH y x).map u8v) rfl HSN.out _ _ HQ5.out HLN.out HON.out ?_)
        have hd1 : (m : Int) - 1 = (c : Int) - 1 - (k + 1 : Nat) := by omega
        exact ⟨⟨k + 1, by omega, by rw [← hd1], nodeH y x, HXN.out, HN32.out, blk_setRow HQ5.out _, (HU.out.trans (H5.out.mono (fun _ _ h => h.elim))).setRow (.inr rfl) _⟩, by simp [RowKit.intOf]⟩
      · have hkc : k = c := by omega
        have hm1 : (c : Int) - 1 - k = -1 := by omega
        have HKC := Lib.hid hkc
        rw [hm1]
        clear hkc
        have HZ2 := Lib.hid (HU.out.blk HZ1.out (fun e => by have e2 : w.heap.size = w.heap.size + 1 := e; omega))
        have HCX := Lib.hid (blk_cells HQQ.out)
        have HLZ := Lib.hid (show zero32.toList.length = (x.map u8v).length by rw [List.length_map, HX32.out]; rfl)
        go_wp2_with (first
          | (refine wpList_loadAgg rfl 30 _ rfl (w.heap.size + 1) 0 rfl (x.map u8v) Tryz.underlying30 rfl HSXX.out HCX.out ?_)
          | (refine store_whole rfl 30 _ _ rfl w.heap.size rfl (x.map u8v) rfl HSXX.out _ _ HZ2.out HLZ.out HO1X.out ?_))
        have hsz : (Tryz.prog.info? 30).map (·.size) = some (x.map u8v).toArray.size := by rw [HSXX.out]; simp
        exact bodyPost_ret (v := .agg (x.map u8v).toArray) (results_cell_row rfl _ _ w.heap.size 30 _ (0, 0) _ rfl (blk_setRow HZ2.out _) Tryz.underlying30 rfl hsz) rfl ⟨by rw [HFP.out, HXE.out, HKC.out], Upd.setRow (HU1.out.then HU.out (fun b hb e => by have e2 : b = w.heap.size + 1 := e; omega)) (.inl (Nat.le_refl _)) _⟩
end Go.Proofs.YtnkcfkjeeennmaaGreatDoor
