/- Plain laws: bytes that are a query's or an answer's, cut off anywhere, are none; nor are they with a byte more. -/
import Derived.Test.YtkdhjighomnooaaDoorBackPlain
namespace Go.Proofs.YtkdhjighomnooaaDoor
open Go.RowKit Go.Lib

theorem numGo_cut : ∀ (f : Nat) (first : Bool) (n m : Nat), n < 2 ^ (7 * f + 1) → m < (varN (f + 1) n).length → numGo (f + 1) first ((varN (f + 1) n).take m) = none
  | f, first, n, m, hn, hm => by
    unfold varN at hm ⊢
    split at hm
    · rename_i h
      have : m = 0 := by simpa using hm
      subst this
      rw [List.take_zero]
      rfl
    · rename_i h
      rw [if_neg h]
      cases m with
      | zero => rw [List.take_zero]; rfl
      | succ m =>
        match f, hn, hm with
        | 0, hn, _ => simp at hn; omega
        | f + 1, hn, hm =>
          have e : ((n % 128 + 128).toUInt8).toNat = n % 128 + 128 := by simp [Nat.toUInt8, UInt8.toNat_ofNat']; omega
          have hd : n / 128 < 2 ^ (7 * f + 1) := by
            have e2 : 2 ^ (7 * (f + 1) + 1) = 2 ^ (7 * f + 1) * 128 := by rw [show 7 * (f + 1) + 1 = (7 * f + 1) + 7 by omega, Nat.pow_add]
            rw [e2] at hn
            exact Nat.div_lt_of_lt_mul (by omega)
          have ih := numGo_cut f false (n / 128) m hd (by simpa using hm)
          rw [List.take_succ_cons]
          unfold numGo
          split
          · rfl
          · rw [e, if_neg (by omega), ih]; rfl
theorem numB_cut (n m : Nat) (hn : n < 18446744073709551616) (hm : m < (varB n).length) : numB ((varB n).take m) = none := numGo_cut 9 true n m hn hm
/-- A reader that has met the end too early. -/
def Lost (x : RdD) : Prop := ∃ k : Nat, x.f = some (3, some (k : Int)) ∧ k ≤ x.s.size
/-- A reader ahead of the first m bytes of rem. -/
structure St (x : RdD) (rem : List UInt8) (m : Nat) : Prop where
  f : x.f = none
  p : x.pos ≤ x.s.size
  r : x.rest = rem.take m
theorem Lost.ne {x : RdD} (h : Lost x) : x.f ≠ none := by obtain ⟨k, h, _⟩ := h; rw [h]; simp
theorem Lost.var {x : RdD} (h : Lost x) : x.var = (0, x) := by unfold RdD.var; rw [if_neg h.ne]
theorem Lost.hash {x : RdD} (h : Lost x) : x.hash = (zeros32, x) := by unfold RdD.hash; rw [if_pos h.ne]
theorem Lost.text {x : RdD} (h : Lost x) : x.text 65536 = ([], x) := by unfold RdD.text; rw [if_neg (by omega), if_pos h.ne]
theorem Lost.fin {x : RdD} (h : Lost x) : ∃ k : Nat, x.fin = some (3, some (k : Int)) ∧ k ≤ x.s.size := by
  obtain ⟨k, h1, h2⟩ := h
  exact ⟨k, by unfold RdD.fin; rw [if_neg (fun h => by rw [h1] at h; cases h.1)]; exact h1, h2⟩
theorem St.go {x : RdD} {l r : List UInt8} {m : Nat} (h : St x (l ++ r) m) (hm : l.length ≤ m) : x.rest = l ++ r.take (m - l.length) := by
  rw [h.r, List.take_append, List.take_of_length_le hm]
theorem St.next {x : RdD} {l r : List UInt8} {m : Nat} (h : St x (l ++ r) m) (hm : l.length ≤ m) : St { x with pos := x.pos + l.length } r (m - l.length) :=
  ⟨h.f, rest_fits x _ _ (h.go hm) h.p, rest_after x _ _ (h.go hm)⟩
theorem St.short {x : RdD} {l r : List UInt8} {m : Nat} (h : St x (l ++ r) m) (hm : m < l.length) : x.rest = l.take m := by
  rw [h.r, List.take_append, show m - l.length = 0 by omega, List.take_zero, List.append_nil]
theorem var_st {x : RdD} {n : Nat} (hn : n < 18446744073709551616) {r : List UInt8} {m : Nat} (h : St x (varB n ++ r) m) :
    ((varB n).length ≤ m ∧ ∃ y, x.var = (n, y) ∧ y.s = x.s ∧ St y r (m - (varB n).length)) ∨ (m < (varB n).length ∧ ∃ y, x.var = (0, y) ∧ y.s = x.s ∧ Lost y) := by
  by_cases hm : (varB n).length ≤ m
  · exact .inl ⟨hm, _, var_at h.f n hn _ (h.go hm), rfl, h.next hm⟩
  · refine .inr ⟨by omega, { x with f := some (3, some (x.pos : Int)) }, ?_, rfl, x.pos, rfl, h.p⟩
    unfold RdD.var
    rw [if_pos h.f, h.short (by omega), numB_cut n m hn (by omega)]
theorem take_lost {x : RdD} (hf : x.f = none) (hp : x.pos ≤ x.s.size) {n : Nat} (h : x.rest.length < n) : x.take n x.pos = ([], { x with f := some (3, some (x.pos : Int)) }) := by
  unfold RdD.take
  have := rest_len x
  rw [if_neg (fun h2 => by omega)]
  unfold RdD.fail
  rw [if_pos hf]
theorem hash_st {x : RdD} {l r : List UInt8} (hl : l.length = 32) {m : Nat} (h : St x (l ++ r) m) :
    (32 ≤ m ∧ ∃ y, x.hash = (l, y) ∧ y.s = x.s ∧ St y r (m - 32)) ∨ (m < 32 ∧ Lost x.hash.2 ∧ x.hash.2.s = x.s) := by
  by_cases hm : 32 ≤ m
  · have h2 := h.next (by omega : l.length ≤ m)
    rw [hl] at h2
    exact .inl ⟨hm, _, hash_at h.f h.p l _ hl (h.go (by omega)), rfl, h2⟩
  · have hlt : x.rest.length < 32 := by rw [h.short (by omega), List.length_take]; omega
    have ht := take_lost h.f h.p hlt
    refine .inr ⟨by omega, ?_⟩
    unfold RdD.hash
    rw [if_neg (fun h2 => h2 h.f), ht]
    exact ⟨⟨x.pos, rfl, h.p⟩, rfl⟩
theorem text_st {x : RdD} {t r : List UInt8} (ht : t.length ≤ 65536) {m : Nat} (h : St x (varB t.length ++ (t ++ r)) m) :
    ((varB t.length).length + t.length ≤ m ∧ ∃ y, x.text 65536 = (t, y) ∧ y.s = x.s ∧ St y r (m - ((varB t.length).length + t.length))) ∨ (m < (varB t.length).length + t.length ∧ ∃ y, x.text 65536 = ([], y) ∧ y.s = x.s ∧ Lost y) := by
  rcases var_st (by omega) h with ⟨h1, y, e1, s1, h2⟩ | ⟨h1, y, e1, s1, h2⟩
  · by_cases hm : t.length ≤ m - (varB t.length).length
    · have h3 := h2.next hm
      have e2 := take_at h2.f h2.p t _ x.pos (h2.go hm)
      refine .inl ⟨by omega, { y with pos := y.pos + t.length }, ?_, s1, by rw [Nat.sub_add_eq]; exact h3⟩
      unfold RdD.text
      rw [if_neg (by omega), if_neg (fun h4 => h4 h.f), e1]
      simp only
      rw [if_neg (fun h4 => h4 h2.f), if_neg (by omega)]
      exact e2
    · have hlt : y.rest.length < t.length := by rw [h2.short (by omega), List.length_take]; omega
      have hxp : x.pos ≤ y.s.size := by rw [s1]; exact h.p
      refine .inr ⟨by omega, { y with f := some (3, some (x.pos : Int)) }, ?_, s1, x.pos, rfl, hxp⟩
      unfold RdD.text
      rw [if_neg (by omega), if_neg (fun h4 => h4 h.f), e1]
      simp only
      rw [if_neg (fun h4 => h4 h2.f), if_neg (by omega)]
      unfold RdD.take
      have := rest_len y
      rw [if_neg (fun h3 => by omega)]
      unfold RdD.fail
      rw [if_pos h2.f]
  · refine .inr ⟨by omega, y, ?_, s1, h2⟩
    unfold RdD.text
    rw [if_neg (by omega), if_neg (fun h4 => h4 h.f), e1]
    simp only
    rw [if_pos h2.ne]
theorem decNums_lost : ∀ (l : List Nat) (q0 : QryD) (x : RdD), Lost x → (decNums l q0 x).2 = x
  | [], _, _, _ => rfl
  | i :: l, q0, x, h => by
    unfold decNums
    rw [h.var]
    exact decNums_lost l _ x h
theorem decTexts_lost : ∀ (n : Nat) (x : RdD), Lost x → (decTexts n x).2 = x
  | 0, _, _ => rfl
  | n + 1, x, h => by
    unfold decTexts
    rw [h.text]
    exact decTexts_lost n x h
theorem decNums_st (g : Nat → Nat) (hg : ∀ i, g i < 18446744073709551616) : ∀ (l : List Nat) (q0 : QryD) (x : RdD) (r : List UInt8) (m : Nat), St x (l.flatMap (fun i => varB (g i)) ++ r) m →
    ((l.flatMap (fun i => varB (g i))).length ≤ m ∧ (decNums l q0 x).2.s = x.s ∧ St (decNums l q0 x).2 r (m - (l.flatMap (fun i => varB (g i))).length)) ∨ (m < (l.flatMap (fun i => varB (g i))).length ∧ (decNums l q0 x).2.s = x.s ∧ Lost (decNums l q0 x).2)
  | [], q0, x, r, m, h => .inl ⟨by simp, rfl, by simpa [decNums] using h⟩
  | i :: l, q0, x, r, m, h => by
    have h' : St x (varB (g i) ++ (l.flatMap (fun i => varB (g i)) ++ r)) m := by simpa using h
    unfold decNums
    simp only [List.flatMap_cons, List.length_append]
    rcases var_st (hg i) h' with ⟨h1, y, e1, s1, h2⟩ | ⟨h1, y, e1, s1, h2⟩
    · rw [e1]
      simp only
      rcases decNums_st g hg l (setQ q0 i (g i)) y r _ h2 with ⟨a1, a2, a3⟩ | ⟨a1, a2, a3⟩
      · exact .inl ⟨by omega, a2.trans s1, by rw [Nat.sub_add_eq]; exact a3⟩
      · exact .inr ⟨by omega, a2.trans s1, a3⟩
    · rw [e1]
      simp only
      rw [decNums_lost l _ y h2]
      exact .inr ⟨by omega, s1, h2⟩
theorem decTexts_st : ∀ (l : List ByteArray) (x : RdD) (r : List UInt8) (m : Nat), (∀ t ∈ l, t.size ≤ 65536) → St x (textsB l ++ r) m →
    ((textsB l).length ≤ m ∧ (decTexts l.length x).2.s = x.s ∧ St (decTexts l.length x).2 r (m - (textsB l).length)) ∨ (m < (textsB l).length ∧ (decTexts l.length x).2.s = x.s ∧ Lost (decTexts l.length x).2)
  | [], x, r, m, _, h => .inl ⟨by simp [textsB], rfl, by simpa [decTexts, textsB] using h⟩
  | t :: l, x, r, m, hl, h => by
    have ht := hl t (by simp)
    have hts : t.data.toList.length = t.size := by rw [Array.length_toList]; rfl
    have h' : St x (varB t.data.toList.length ++ (t.data.toList ++ (textsB l ++ r))) m := by rw [hts]; simpa [textsB] using h
    have hlen : (textsB (t :: l)).length = (varB t.data.toList.length).length + t.data.toList.length + (textsB l).length := by rw [hts]; simp [textsB, hts]; omega
    rw [hlen]
    show (_ ∧ (decTexts (l.length + 1) x).2.s = x.s ∧ St (decTexts (l.length + 1) x).2 r _) ∨ (_ ∧ (decTexts (l.length + 1) x).2.s = x.s ∧ Lost (decTexts (l.length + 1) x).2)
    unfold decTexts
    rcases text_st (by omega) h' with ⟨h1, y, e1, s1, h2⟩ | ⟨h1, y, e1, s1, h2⟩
    · rw [e1]
      simp only
      rcases decTexts_st l y r _ (fun u hu => hl u (by simp [hu])) h2 with ⟨a1, a2, a3⟩ | ⟨a1, a2, a3⟩
      · exact .inl ⟨by omega, a2.trans s1, by rw [Nat.sub_add_eq]; exact a3⟩
      · exact .inr ⟨by omega, a2.trans s1, a3⟩
    · rw [e1]
      simp only
      rw [decTexts_lost _ y h2]
      exact .inr ⟨by omega, s1, h2⟩
theorem finQ_lost (q : QryD) {x : RdD} {i : Nat} (h : Lost x) (hs : x.s.size ≤ i) : ∃ k : Nat, k ≤ i ∧ finQ q x = (zeroQ, some (3, some (k : Int))) := by
  obtain ⟨k, h1, h2⟩ := h.fin
  exact ⟨k, by omega, by unfold finQ; rw [h1, if_neg (by simp)]⟩
/-- What is cut off is refused. -/
theorem decQ_cut (q : QryD) (hq : q.Ok) (hm : mayB q = true) (hb : ¬ bigQ q.leaves) (hl : q.body.length ≤ 1048576) (i : Nat) (hi : i < q.body.length) : ∃ k : Nat, k ≤ i ∧ decQ (str (q.body.take i)) = (zeroQ, some (3, some (k : Int))) := by
  have hm0 := hm
  unfold mayB at hm
  simp only [Bool.and_eq_true] at hm
  obtain ⟨h1, h2, h3, _⟩ := hm
  have hk := toU8 _ hq.kind
  have he := toU8 _ hq.engine
  have eb : q.body = q.kind.toUInt8 :: q.engine.toUInt8 :: (numsB q (askN q.kind) ++ (if askL q.kind then varB q.leaves.length ++ textsB q.leaves else [])) := by
    unfold QryD.body headB
    rw [fixB1 _ hq.kind, fixB1 _ hq.engine]
    simp
  generalize hbd : q.body = bd at *
  have hsz : (str (bd.take i)).size = i := by rw [str_size, List.length_take]; omega
  match i, hi, hsz with
  | 0, _, _ => exact ⟨0, Nat.le_refl _, by unfold decQ; rw [if_neg (by rw [str_size]; simp), str_len, List.take_zero]; rfl⟩
  | 1, _, _ =>
    refine ⟨1, Nat.le_refl _, ?_⟩
    unfold decQ
    rw [if_neg (by rw [str_size, List.length_take]; omega), str_len, eb]
    simp only [List.take_succ_cons, List.take_zero, hk, h1, Bool.true_eq_false, if_false]
    rfl
  | i + 2, hi, hsz =>
    have et : bd.take (i + 2) = q.kind.toUInt8 :: q.engine.toUInt8 :: ((numsB q (askN q.kind) ++ (if askL q.kind then varB q.leaves.length ++ textsB q.leaves else [])).take i) := by rw [eb]; rfl
    have hlen : i < (numsB q (askN q.kind) ++ (if askL q.kind then varB q.leaves.length ++ textsB q.leaves else [])).length := by rw [eb] at hi; simpa using hi
    rw [decQ_cons (str (bd.take (i + 2))) (by rw [hsz]; omega) q.kind.toUInt8 q.engine.toUInt8 _ (by rw [str_len]; exact et) (by rw [hk]; exact h1) (by rw [hk, he]; exact h2), hk, he]
    have st : St ⟨str (bd.take (i + 2)), 2, none⟩ ((askN q.kind).flatMap (fun i => varB (numQ q i)) ++ (if askL q.kind then varB q.leaves.length ++ textsB q.leaves else [])) i :=
      ⟨rfl, by show 2 ≤ (str (bd.take (i + 2))).size; rw [hsz]; omega, by unfold RdD.rest; simp only [str_len]; rw [et]; rfl⟩
    have hn := decNums_st (numQ q) (num_lt q hq) (askN q.kind) ⟨q.kind, q.engine, 0, 0, 0, 0, 0, []⟩ _ _ _ st
    generalize decNums (askN q.kind) ⟨q.kind, q.engine, 0, 0, 0, 0, 0, []⟩ ⟨str (bd.take (i + 2)), 2, none⟩ = r at hn
    obtain ⟨q1, y⟩ := r
    have hll : (numsB q (askN q.kind)).length = ((askN q.kind).flatMap (fun i => varB (numQ q i))).length := rfl
    rw [List.length_append, hll] at hlen
    by_cases hL : askL q.kind = true
    · rw [if_pos hL] at hn hlen ⊢
      rw [List.length_append] at hlen
      have hbn : q.leaves.length ≤ 4096 := by
        have : ¬ 4096 < q.leaves.length := fun h => hb (.inl h)
        omega
      unfold leafQ
      simp only at hn ⊢
      rcases hn with ⟨a1, a2, a3⟩ | ⟨a1, a2, a3⟩
      · rcases var_st (by omega) a3 with ⟨b1, z, e1, s1, b2⟩ | ⟨b1, z, e1, s1, b2⟩
        · rw [e1]
          simp only
          rw [if_neg (by omega)]
          have b2' : St z (textsB q.leaves ++ []) (i - ((askN q.kind).flatMap (fun i => varB (numQ q i))).length - (varB q.leaves.length).length) := by rw [List.append_nil]; exact b2
          rcases decTexts_st q.leaves z [] _ (fun t ht => Decidable.byContradiction fun h => hb (.inr (.inl ⟨t, ht, by omega⟩))) b2' with ⟨c1, c2, c3⟩ | ⟨c1, c2, c3⟩
          · omega
          · exact finQ_lost _ c3 (by rw [c2, s1, a2, hsz]; exact Nat.le_refl _)
        · rw [e1]
          simp only
          rw [if_neg (by omega)]
          exact finQ_lost _ b2 (by show z.s.size ≤ _; rw [s1, a2, hsz]; exact Nat.le_refl _)
      · rw [a3.var]
        simp only
        rw [if_neg (by omega)]
        exact finQ_lost _ a3 (by show y.s.size ≤ _; rw [a2, hsz]; exact Nat.le_refl _)
    · rw [if_neg hL] at hn hlen ⊢
      simp only [List.length_nil, Nat.add_zero] at hlen
      rcases hn with ⟨a1, a2, a3⟩ | ⟨a1, a2, a3⟩
      · omega
      · exact finQ_lost _ a3 (by rw [a2, hsz]; exact Nat.le_refl _)
theorem fin_more {x : RdD} (hf : x.f = none) {c : UInt8} (hr : x.rest = [c]) (n : Nat) (hs : x.s.size = n + 1) : x.fin = some (3, some (n : Int)) := by
  have := rest_len x
  rw [hr] at this
  simp only [List.length_cons, List.length_nil] at this
  have hp : x.pos = n := by omega
  unfold RdD.fin
  rw [if_pos ⟨hf, by omega⟩, hp]
/-- A byte more is refused. -/
theorem decQ_more (q : QryD) (hq : q.Ok) (hm : mayB q = true) (hb : ¬ bigQ q.leaves) (hl : q.body.length < 1048576) (c : UInt8) : decQ (str (q.body ++ [c])) = (zeroQ, some (3, some (q.body.length : Int))) := by
  unfold mayB at hm
  simp only [Bool.and_eq_true] at hm
  obtain ⟨h1, h2, h3, _⟩ := hm
  have hk := toU8 _ hq.kind
  have he := toU8 _ hq.engine
  have eb : q.body = q.kind.toUInt8 :: q.engine.toUInt8 :: (numsB q (askN q.kind) ++ (if askL q.kind then varB q.leaves.length ++ textsB q.leaves else [])) := by
    unfold QryD.body headB
    rw [fixB1 _ hq.kind, fixB1 _ hq.engine]
    simp
  generalize hbd : q.body = bd at *
  have hsz : (str (bd ++ [c])).size = bd.length + 1 := by rw [str_size]; simp
  have hs0 : ¬ 1048576 < (str (bd ++ [c])).size := by rw [hsz]; omega
  have r0 : RdD.rest ⟨str (bd ++ [c]), 2, none⟩ = (askN q.kind).flatMap (fun i => varB (numQ q i)) ++ ((if askL q.kind then varB q.leaves.length ++ textsB q.leaves else []) ++ [c]) := by
    unfold RdD.rest; simp only [str_len]; rw [eb, ← List.append_assoc]; rfl
  have p0 : (2 : Nat) ≤ (str (bd ++ [c])).size := by rw [hsz, eb]; simp
  obtain ⟨p, d1, p1, r1⟩ := decNums_at (numQ q) (num_lt q hq) (askN q.kind) ⟨q.kind, q.engine, 0, 0, 0, 0, 0, []⟩ ⟨str (bd ++ [c]), 2, none⟩ _ rfl p0 r0
  rw [decQ_cons (str (bd ++ [c])) hs0 q.kind.toUInt8 q.engine.toUInt8 _ (by rw [str_len, eb]; rfl) (by rw [hk]; exact h1) (by rw [hk, he]; exact h2), hk, he, d1]
  have hfin : ∀ (q : QryD) (x : RdD), x.fin = some (3, some (bd.length : Int)) → finQ q x = (zeroQ, some (3, some (bd.length : Int))) := fun q x h => by
    unfold finQ; rw [h, if_neg (by simp)]
  by_cases hL : askL q.kind = true
  · rw [if_pos hL] at r1 ⊢
    have hn : q.leaves.length ≤ 4096 := by
      have : ¬ 4096 < q.leaves.length := fun h => hb (.inl h)
      omega
    have r1' : RdD.rest ⟨str (bd ++ [c]), p, none⟩ = varB q.leaves.length ++ (textsB q.leaves ++ [c]) := by rw [← List.append_assoc]; exact r1
    have v1 := var_at (x := ⟨str (bd ++ [c]), p, none⟩) rfl q.leaves.length (by omega) _ r1'
    have r2 := rest_after ⟨str (bd ++ [c]), p, none⟩ _ _ r1'
    have p2 := rest_fits ⟨str (bd ++ [c]), p, none⟩ _ _ r1' p1
    obtain ⟨p3, d3, p3', r3⟩ := decTexts_at q.leaves ⟨str (bd ++ [c]), p + (varB q.leaves.length).length, none⟩ [c] (fun t ht => Decidable.byContradiction fun h => hb (.inr (.inl ⟨t, ht, by omega⟩))) rfl p2 r2
    unfold leafQ
    simp only
    rw [v1]
    simp only
    rw [if_neg (by omega), d3]
    exact hfin _ _ (fin_more rfl r3 bd.length hsz)
  · rw [if_neg hL] at r1 ⊢
    exact hfin _ _ (fin_more rfl r1 bd.length hsz)
theorem decHs_lost : ∀ (n : Nat) (x : RdD), Lost x → (decHs n x).2 = x
  | 0, _, _ => rfl
  | n + 1, x, h => by
    unfold decHs
    rw [h.hash]
    simp only
    rw [if_pos h.ne]
theorem decHs_st : ∀ (hs : List (List UInt8)) (x : RdD) (r : List UInt8) (m : Nat), (∀ t ∈ hs, t.length = 32) → St x (hs.flatten ++ r) m →
    (hs.flatten.length ≤ m ∧ (decHs hs.length x).2.s = x.s ∧ St (decHs hs.length x).2 r (m - hs.flatten.length)) ∨ (m < hs.flatten.length ∧ (decHs hs.length x).2.s = x.s ∧ Lost (decHs hs.length x).2)
  | [], x, r, m, _, h => .inl ⟨by simp, rfl, by simpa [decHs] using h⟩
  | t :: hs, x, r, m, hl, h => by
    have ht := hl t (by simp)
    have h' : St x (t ++ (hs.flatten ++ r)) m := by simpa using h
    have hlen : (t :: hs).flatten.length = 32 + hs.flatten.length := by simp [ht]
    rw [hlen]
    show (_ ∧ (decHs (hs.length + 1) x).2.s = x.s ∧ St (decHs (hs.length + 1) x).2 r _) ∨ (_ ∧ (decHs (hs.length + 1) x).2.s = x.s ∧ Lost (decHs (hs.length + 1) x).2)
    unfold decHs
    rcases hash_st ht h' with ⟨h1, y, e1, s1, h2⟩ | ⟨h1, h2, s1⟩
    · rw [e1]
      simp only
      rw [if_neg (fun h4 => h4 h2.f)]
      rcases decHs_st hs y r _ (fun u hu => hl u (by simp [hu])) h2 with ⟨a1, a2, a3⟩ | ⟨a1, a2, a3⟩
      · exact .inl ⟨by omega, a2.trans s1, by rw [Nat.sub_add_eq]; exact a3⟩
      · exact .inr ⟨by omega, a2.trans s1, a3⟩
    · rw [if_pos h2.ne]
      exact .inr ⟨by omega, s1, h2⟩
theorem ansB_form (a : AnsD) (ha : a.Ok) (hb : ¬ a.bad) (he : ansE a = none) : (a.code ≠ 0 ∧ a.code ≤ 5 ∧ ansB a = [a.code.toUInt8]) ∨ (a.code = 0 ∧ a.leaf.data.toList.length ≤ 65536 ∧ a.hs.length ≤ 1048576 ∧ ansB a = 0 :: (varB a.size ++ (varB a.hs.length ++ (a.hs.flatten ++ (varB a.leaf.data.toList.length ++ a.leaf.data.toList)))) ∧ (ansB a).length ≤ 1048576) := by
  by_cases hc : a.code ≠ 0
  · refine .inl ⟨hc, ?_, ?_⟩
    · have : ¬ 5 < a.code := fun h => hb (.inl h)
      omega
    · unfold ansB; rw [if_neg hb, if_pos hc, fixB1 _ ha.code]
  · have hc0 : a.code = 0 := Decidable.byContradiction hc
    have hl : ¬ (65536 < a.leaf.size ∨ 1048576 < a.hs.length) := fun h => by
      unfold ansE at he; rw [if_neg hb, if_neg hc, if_pos h] at he; cases he
    have hw : ¬ 1048576 < a.body.length := fun h => by
      unfold ansE at he; rw [if_neg hb, if_neg hc, if_neg hl] at he; unfold wholeE at he; rw [if_pos h] at he; cases he
    have e1 : ansB a = a.body := by
      unfold ansB; rw [if_neg hb, if_neg hc, if_neg hl]; unfold wholeB; rw [if_neg hw]
    have hll : a.leaf.data.toList.length = a.leaf.size := by rw [Array.length_toList]; rfl
    refine .inr ⟨hc0, by omega, by omega, ?_, by rw [e1]; omega⟩
    rw [e1, hll]
    unfold AnsD.body
    rw [hc0, fixB1 0 (by omega)]
    simp
/-- What is cut off is refused. -/
theorem decA_cut (a : AnsD) (ha : a.Ok) (hb : ¬ a.bad) (he : ansE a = none) (i : Nat) (hi : i < (ansB a).length) : ∃ k : Nat, k ≤ i ∧ decA (str ((ansB a).take i)) = (zeroA, some (3, some (k : Int))) := by
  have zero : decA (str []) = (zeroA, some (3, some 0)) := by unfold decA; rfl
  rcases ansB_form a ha hb he with ⟨_, _, e1⟩ | ⟨_, hl, hn, e1, hw⟩
  · rw [e1] at hi ⊢
    have : i = 0 := by simpa using hi
    subst this
    exact ⟨0, Nat.le_refl _, zero⟩
  · generalize hbd : ansB a = bd at *
    have hsz : (str (bd.take i)).size = i := by rw [str_size, List.length_take]; omega
    match i, hi, hsz with
    | 0, _, _ => exact ⟨0, Nat.le_refl _, by rw [List.take_zero]; exact zero⟩
    | i + 1, hi, hsz =>
      have hlen : i < (varB a.size ++ (varB a.hs.length ++ (a.hs.flatten ++ (varB a.leaf.data.toList.length ++ a.leaf.data.toList)))).length := by rw [e1] at hi; simpa using hi
      have et : bd.take (i + 1) = 0 :: ((varB a.size ++ (varB a.hs.length ++ (a.hs.flatten ++ (varB a.leaf.data.toList.length ++ (a.leaf.data.toList ++ []))))).take i) := by rw [e1, List.append_nil]; rfl
      rw [decA_cons (str (bd.take (i + 1))) (by rw [hsz]; omega) 0 _ (by rw [str_len]; exact et) (by decide), if_pos (show (0 : UInt8).toNat = 0 from rfl)]
      have st : St ⟨str (bd.take (i + 1)), 1, none⟩ (varB a.size ++ (varB a.hs.length ++ (a.hs.flatten ++ (varB a.leaf.data.toList.length ++ (a.leaf.data.toList ++ []))))) i :=
        ⟨rfl, by show 1 ≤ (str (bd.take (i + 1))).size; rw [hsz]; omega, by unfold RdD.rest; simp only [str_len]; rw [et]; rfl⟩
      have lost : Lost (decBody (str (bd.take (i + 1)))).2 ∧ (decBody (str (bd.take (i + 1)))).2.s.size = i + 1 := by
        unfold decBody
        simp only
        simp only [List.length_append] at hlen
        rcases var_st ha.size st with ⟨a1, y1, v1, s1, b1⟩ | ⟨a1, y1, v1, s1, b1⟩
        · rw [v1]
          simp only
          rcases var_st (by omega) b1 with ⟨a2, y2, v2, s2, b2⟩ | ⟨a2, y2, v2, s2, b2⟩
          · rw [v2]
            simp only
            rcases decHs_st a.hs y2 _ _ ha.len b2 with ⟨a3, s3, b3⟩ | ⟨a3, s3, b3⟩
            · rcases text_st hl b3 with ⟨a4, y4, v4, s4, b4⟩ | ⟨a4, y4, v4, s4, b4⟩
              · omega
              · rw [v4]
                exact ⟨b4, by show y4.s.size = _; rw [s4, s3, s2, s1, hsz]⟩
            · rw [b3.text]
              exact ⟨b3, by show (decHs a.hs.length y2).2.s.size = _; rw [s3, s2, s1, hsz]⟩
          · rw [v2]
            simp only [decHs]
            rw [b2.text]
            exact ⟨b2, by show y2.s.size = _; rw [s2, s1, hsz]⟩
        · rw [v1]
          simp only
          rw [b1.var]
          simp only [decHs]
          rw [b1.text]
          exact ⟨b1, by show y1.s.size = _; rw [s1, hsz]⟩
      obtain ⟨k, f1, f2⟩ := lost.1.fin
      refine ⟨k, by rw [lost.2] at f2; exact f2, ?_⟩
      simp only
      rw [f1, if_neg (by simp)]
/-- A byte more is refused. -/
theorem decA_more (a : AnsD) (ha : a.Ok) (hb : ¬ a.bad) (he : ansE a = none) (hl : (ansB a).length < 1048576) (c : UInt8) : decA (str (ansB a ++ [c])) = (zeroA, some (3, some ((ansB a).length : Int))) := by
  rcases ansB_form a ha hb he with ⟨h0, h5, e1⟩ | ⟨_, hlf, hn, e1, hw⟩
  · rw [e1]
    have hk := toU8 _ ha.code
    rw [decA_cons (str ([a.code.toUInt8] ++ [c])) (by rw [str_size]; simp) a.code.toUInt8 [c] (by rw [str_len]; rfl) (by rw [hk]; omega), hk, if_neg h0]
    simp only
    have : RdD.fin ⟨str ([a.code.toUInt8] ++ [c]), 1, none⟩ = some (3, some 1) := by
      unfold RdD.fin
      rw [if_pos ⟨rfl, by show 1 < (str _).size; rw [str_size]; simp⟩]
      rfl
    rw [this, if_neg (by simp)]
    rfl
  · generalize hbd : ansB a = bd at *
    have hsz : (str (bd ++ [c])).size = bd.length + 1 := by rw [str_size]; simp
    have et : bd ++ [c] = 0 :: (varB a.size ++ (varB a.hs.length ++ (a.hs.flatten ++ (varB a.leaf.data.toList.length ++ (a.leaf.data.toList ++ [c]))))) := by rw [e1]; simp
    rw [decA_cons (str (bd ++ [c])) (by rw [hsz]; omega) 0 _ (by rw [str_len]; exact et) (by decide), if_pos (show (0 : UInt8).toNat = 0 from rfl)]
    unfold decBody
    simp only
    have r0 : RdD.rest ⟨str (bd ++ [c]), 1, none⟩ = varB a.size ++ (varB a.hs.length ++ (a.hs.flatten ++ (varB a.leaf.data.toList.length ++ (a.leaf.data.toList ++ [c])))) := by
      unfold RdD.rest; simp only [str_len]; rw [et]; rfl
    have p0 : (1 : Nat) ≤ (str (bd ++ [c])).size := by rw [hsz]; omega
    have v0 := var_at (x := ⟨str (bd ++ [c]), 1, none⟩) rfl a.size ha.size _ r0
    have r1 := rest_after ⟨str (bd ++ [c]), 1, none⟩ _ _ r0
    have p1 := rest_fits ⟨str (bd ++ [c]), 1, none⟩ _ _ r0 p0
    rw [v0]
    simp only
    have v1 := var_at (x := ⟨str (bd ++ [c]), 1 + (varB a.size).length, none⟩) rfl a.hs.length (by omega) _ r1
    have r2 := rest_after ⟨str (bd ++ [c]), 1 + (varB a.size).length, none⟩ _ _ r1
    have p2 := rest_fits ⟨str (bd ++ [c]), 1 + (varB a.size).length, none⟩ _ _ r1 p1
    rw [v1]
    simp only
    have d2 := decHs_at a.hs ⟨str (bd ++ [c]), 1 + (varB a.size).length + (varB a.hs.length).length, none⟩ _ ha.len rfl p2 r2
    have r3 := rest_after ⟨str (bd ++ [c]), 1 + (varB a.size).length + (varB a.hs.length).length, none⟩ _ _ r2
    have p3 := rest_fits ⟨str (bd ++ [c]), 1 + (varB a.size).length + (varB a.hs.length).length, none⟩ _ _ r2 p2
    rw [flat_len a.hs ha.len] at r3 p3
    rw [d2]
    simp only at r3 p3 ⊢
    generalize hpp : 1 + (varB a.size).length + (varB a.hs.length).length + 32 * a.hs.length = pp at *
    have t3 := text_at (x := ⟨str (bd ++ [c]), pp, none⟩) rfl p3 a.leaf.data.toList [c] 65536 hlf (by omega) r3
    have r4 := rest_after ⟨str (bd ++ [c]), pp, none⟩ _ _ r3
    have r5 := rest_after ⟨str (bd ++ [c]), pp + (varB a.leaf.data.toList.length).length, none⟩ _ _ r4
    have t4 : RdD.text ⟨str (bd ++ [c]), pp, none⟩ 65536 = (a.leaf.data.toList, ⟨str (bd ++ [c]), pp + (varB a.leaf.data.toList.length).length + a.leaf.data.toList.length, none⟩) := t3
    rw [t4]
    simp only at r5 ⊢
    rw [fin_more rfl r5 bd.length hsz, if_neg (by simp)]
end Go.Proofs.YtkdhjighomnooaaDoor
