/- Plain laws of queries: what is written is read as it was; what is read is written as it was. DecodeQuery of any bytes; TextsSize. PRINTED by wip/tools/gen_mayl.py. -/
import Derived.Test.YtljnhelnmnomoaaGreatDoorOncePlain
import Derived.Test.YtljnhelnmnomoaaGreatDoorQApp
import Derived.Test.YtljnhelnmnomoaaGreatDoorAlive
namespace Go.Proofs.YtljnhelnmnomoaaGreatDoor
open Go.RowKit Go.Lib


theorem fin_end {x : RdD} (hf : x.f = none) (hr : x.rest = []) : x.fin = none := by
  have := rest_len x
  rw [hr] at this
  unfold RdD.fin
  rw [if_neg (fun h => by have := h.2; simp only [List.length_nil] at *; omega)]
  exact hf
theorem decNums_at (g : Nat → Nat) (hg : ∀ i, g i < 18446744073709551616) : ∀ (l : List Nat) (q0 : QryD) (x : RdD) (r : List UInt8), x.f = none → x.pos ≤ x.s.size → x.rest = l.flatMap (fun i => varB (g i)) ++ r →
    ∃ p, decNums l q0 x = (l.foldl (fun q i => setQ q i (g i)) q0, { x with pos := p }) ∧ p ≤ x.s.size ∧ RdD.rest { x with pos := p } = r
  | [], q0, x, r, hf, hp, hr => ⟨x.pos, rfl, hp, by simpa using hr⟩
  | i :: l, q0, x, r, hf, hp, hr => by
    have hr' : x.rest = varB (g i) ++ (l.flatMap (fun i => varB (g i)) ++ r) := by rw [hr]; simp
    have hv := var_at hf (g i) (hg i) _ hr'
    have hr2 := rest_after x _ _ hr'
    have hp2 := rest_fits x _ _ hr' hp
    obtain ⟨p, h1, h2, h3⟩ := decNums_at g hg l (setQ q0 i (g i)) { x with pos := x.pos + (varB (g i)).length } r hf hp2 hr2
    refine ⟨p, ?_, h2, h3⟩
    show decNums (i :: l) q0 x = _
    unfold decNums
    rw [hv]
    exact h1
theorem decTexts_at : ∀ (l : List ByteArray) (x : RdD) (r : List UInt8), (∀ t ∈ l, t.size ≤ 65536) → x.f = none → x.pos ≤ x.s.size → x.rest = textsB l ++ r →
    ∃ p, decTexts l.length x = (l, { x with pos := p }) ∧ p ≤ x.s.size ∧ RdD.rest { x with pos := p } = r
  | [], x, r, _, hf, hp, hr => ⟨x.pos, rfl, hp, by simpa [textsB] using hr⟩
  | t :: l, x, r, hl, hf, hp, hr => by
    have ht := hl t (by simp)
    have hts : t.data.toList.length = t.size := by rw [Array.length_toList]; rfl
    have hr' : x.rest = varB t.data.toList.length ++ (t.data.toList ++ (textsB l ++ r)) := by rw [hr, hts]; simp [textsB]
    have hv : x.text 65536 = _ := text_at hf hp t.data.toList (textsB l ++ r) 65536 (by omega) (by omega) hr'
    have hr2 := rest_after x _ _ hr'
    have hp2 := rest_fits x _ _ hr' hp
    have hr3 := rest_after { x with pos := x.pos + (varB t.data.toList.length).length } _ _ hr2
    have hp3 := rest_fits { x with pos := x.pos + (varB t.data.toList.length).length } _ _ hr2 hp2
    obtain ⟨p, h1, h2, h3⟩ := decTexts_at l { x with pos := x.pos + (varB t.data.toList.length).length + t.data.toList.length } r (fun u hu => hl u (by simp [hu])) hf hp3 hr3
    refine ⟨p, ?_, h2, h3⟩
    show decTexts (l.length + 1) x = _
    unfold decTexts
    rw [hv]
    simp only
    rw [h1, str_toList]
theorem decQ_cons (s : ByteArray) (hs : ¬ 1048576 < s.size) (c e : UInt8) (l : List UInt8) (h : s.data.toList = c :: e :: l) (h1 : okQ c.toNat = true) (h2 : goesB c.toNat e.toNat = true) :
    decQ s = if askL c.toNat = true then leafQ (decNums (askN c.toNat) ⟨c.toNat, e.toNat, 0, 0, 0, 0, 0, []⟩ ⟨s, 2, none⟩) else finQ (decNums (askN c.toNat) ⟨c.toNat, e.toNat, 0, 0, 0, 0, 0, []⟩ ⟨s, 2, none⟩).1 (decNums (askN c.toNat) ⟨c.toNat, e.toNat, 0, 0, 0, 0, 0, []⟩ ⟨s, 2, none⟩).2 := by
  unfold decQ
  rw [if_neg hs, h]
  simp only [h1, h2, Bool.true_eq_false, if_false]
  rfl
theorem fold_nums (q : QryD) (h : mayB q = true) : (askN q.kind).foldl (fun a i => setQ a i (numQ q i)) ⟨q.kind, q.engine, 0, 0, 0, 0, 0, []⟩ = { q with leaves := [] } := by
  obtain ⟨k, e, sz, ix, od, bg, fi, lv⟩ := q
  unfold mayB at h
  simp only [Bool.and_eq_true] at h
  obtain ⟨h1, _, _, h2⟩ := h
  unfold okQ at h1
  simp only [Bool.and_eq_true, decide_eq_true_eq] at h1
  rcases (show k = 1 ∨ k = 2 ∨ k = 3 ∨ k = 4 ∨ k = 5 ∨ k = 6 ∨ k = 7 by omega) with rfl | rfl | rfl | rfl | rfl | rfl | rfl <;>
    simp [mayNum, askN, numQ, List.range, List.range.loop] at h2 <;> simp [askN, setQ, numQ, h2]
/-- What is written is read as it was. -/
theorem back_ok (q : QryD) (hq : q.Ok) (hm : mayB q = true) (hb : ¬ bigQ q.leaves) (hl : q.body.length ≤ 1048576) : decQ (str q.body) = (q, none) := by
  have hm0 := hm
  unfold mayB at hm
  simp only [Bool.and_eq_true] at hm
  obtain ⟨h1, h2, h3, _⟩ := hm
  have hk := toU8 _ hq.kind
  have he := toU8 _ hq.engine
  have eb : q.body = q.kind.toUInt8 :: q.engine.toUInt8 :: (numsB q (askN q.kind) ++ (if askL q.kind then varB q.leaves.length ++ textsB q.leaves else [])) := by
    unfold QryD.body headB
    rw [fixB1 _ hq.kind, fixB1 _ hq.engine]
    simp
  generalize hbd : q.body = bd at *
  have hs0 : ¬ 1048576 < (str bd).size := by rw [str_size]; omega
  have r0 : RdD.rest ⟨str bd, 2, none⟩ = (askN q.kind).flatMap (fun i => varB (numQ q i)) ++ (if askL q.kind then varB q.leaves.length ++ textsB q.leaves else []) := by
    unfold RdD.rest; simp only [str_len]; rw [eb]; rfl
  have p0 : (2 : Nat) ≤ (str bd).size := by rw [str_size, eb]; simp
  obtain ⟨p, d1, p1, r1⟩ := decNums_at (numQ q) (num_lt q hq) (askN q.kind) ⟨q.kind, q.engine, 0, 0, 0, 0, 0, []⟩ ⟨str bd, 2, none⟩ _ rfl p0 r0
  rw [fold_nums q hm0] at d1
  rw [decQ_cons (str bd) hs0 q.kind.toUInt8 q.engine.toUInt8 _ (by rw [str_len]; exact eb) (by rw [hk]; exact h1) (by rw [hk, he]; exact h2), hk, he, d1]
  by_cases hL : askL q.kind = true
  · rw [if_pos hL] at r1 ⊢
    have hn : q.leaves.length ≤ 4096 := by
      have : ¬ 4096 < q.leaves.length := fun h => hb (.inl h)
      omega
    have v1 := var_at (x := ⟨str bd, p, none⟩) rfl q.leaves.length (by omega) _ r1
    have r2 := rest_after ⟨str bd, p, none⟩ _ _ r1
    have p2 := rest_fits ⟨str bd, p, none⟩ _ _ r1 p1
    obtain ⟨p3, d3, p3', r3⟩ := decTexts_at q.leaves ⟨str bd, p + (varB q.leaves.length).length, none⟩ [] (fun t ht => Decidable.byContradiction fun h => hb (.inr (.inl ⟨t, ht, by omega⟩))) rfl p2 (by rw [List.append_nil]; exact r2)
    unfold leafQ
    simp only
    rw [v1]
    simp only
    rw [if_neg (by omega), d3]
    unfold finQ
    rw [if_pos (fin_end rfl r3)]
  · rw [if_neg hL] at r1 ⊢
    have hn : q.leaves = [] := by
      have : q.leaves.length = 0 := by simpa [hL] using h3
      exact List.length_eq_zero_iff.1 this
    unfold finQ
    simp only
    rw [if_pos (fin_end rfl r1), ← hn]
theorem varN_small (n : Nat) (h : n ≤ 65536) : (varB n).length ≤ 3 := by
  unfold varB varN
  split
  · simp
  · unfold varN
    split
    · simp
    · unfold varN
      rw [if_pos (by omega)]; simp
theorem textsB_small (l : List ByteArray) (h : ∀ t ∈ l, t.size ≤ 65536) : (textsB l).length ≤ 3 * l.length + sizes l := by
  unfold textsB sizes
  induction l with
  | nil => simp
  | cons a t ih =>
    have := varN_small a.size (h a (by simp))
    have h2 : a.data.toList.length = a.size := by rw [Array.length_toList]; rfl
    have h3 := ih (fun u hu => h u (by simp [hu]))
    simp only [List.flatMap_cons, List.length_append, List.length_cons, List.map_cons, List.sum_cons]; omega
theorem textsB_more (l : List ByteArray) : sizes l ≤ (textsB l).length := by
  unfold textsB sizes
  induction l with
  | nil => simp
  | cons a t ih =>
    have h2 : a.data.toList.length = a.size := by rw [Array.length_toList]; rfl
    simp only [List.flatMap_cons, List.length_append, List.map_cons, List.sum_cons]; omega
/-- A refusal says so. -/
theorem back_no (q : QryD) (hb : ¬ bigQ q.leaves) (hw : 1048576 < q.body.length) : 1048576 < sizes q.leaves + 3 * q.leaves.length + 60 := by
  have h1 := numsB_len q (askN q.kind)
  have h2 := askN_small q.kind
  have h3 := textsB_small q.leaves (fun t ht => Decidable.byContradiction fun h => hb (.inr (.inl ⟨t, ht, by omega⟩)))
  have h4 := varB_len q.leaves.length
  unfold QryD.body headB at hw
  simp only [List.length_append, fixB_len] at hw
  split at hw
  · rw [List.length_append] at hw; omega
  · rw [List.length_nil] at hw; omega
theorem back_zero {s : ByteArray} {b : QryD} {e : Nat × Option Int} (h : decQ s = (b, some e)) : b = zeroQ := by
  by_cases hl : 1048576 < s.size
  · unfold decQ at h; rw [if_pos hl] at h; exact (Prod.mk.inj h).1.symm
  · cases hd : s.data.toList with
    | nil => unfold decQ at h; rw [if_neg hl, hd] at h; exact (Prod.mk.inj h).1.symm
    | cons c l =>
      by_cases h1 : okQ c.toNat = true
      · cases l with
        | nil => unfold decQ at h; rw [if_neg hl, hd] at h; simp only [h1, Bool.true_eq_false, if_false] at h; exact (Prod.mk.inj h).1.symm
        | cons d l =>
          by_cases h2 : goesB c.toNat d.toNat = true
          · rw [decQ_cons s hl c d l hd h1 h2] at h
            have hfin : ∀ (q : QryD) (x : RdD), finQ q x = (b, some e) → b = zeroQ := fun q x h => by
              unfold finQ at h
              split at h
              · exact absurd (Prod.mk.inj h).2 (by simp)
              · exact (Prod.mk.inj h).1.symm
            split at h
            · unfold leafQ at h
              split at h
              · exact (Prod.mk.inj h).1.symm
              · exact hfin _ _ h
            · exact hfin _ _ h
          · have h2 : goesB c.toNat d.toNat = false := by simpa using h2
            unfold decQ at h; rw [if_neg hl, hd] at h; simp only [h1, h2, Bool.true_eq_false, if_false, if_true] at h; exact (Prod.mk.inj h).1.symm
      · have h1 : okQ c.toNat = false := by simpa using h1
        unfold decQ at h; rw [if_neg hl, hd] at h; simp only [h1, if_true] at h; exact (Prod.mk.inj h).1.symm
theorem num_set (q : QryD) (i j v : Nat) (hi : i < 5) (hj : j < 5) : numQ (setQ q i v) j = if j = i then v else numQ q j := by
  rcases (show i = 0 ∨ i = 1 ∨ i = 2 ∨ i = 3 ∨ i = 4 by omega) with rfl | rfl | rfl | rfl | rfl <;>
    rcases (show j = 0 ∨ j = 1 ∨ j = 2 ∨ j = 3 ∨ j = 4 by omega) with rfl | rfl | rfl | rfl | rfl <;> rfl
theorem set_rest (q : QryD) (i v : Nat) : (setQ q i v).kind = q.kind ∧ (setQ q i v).engine = q.engine ∧ (setQ q i v).leaves = q.leaves := by
  unfold setQ; split <;> exact ⟨rfl, rfl, rfl⟩
theorem decNums_got : ∀ (l : List Nat) (q0 : QryD) (x : RdD), l.Nodup → (∀ i ∈ l, i < 5) → (decNums l q0 x).2.f = none →
    x.f = none ∧ ∃ q y, decNums l q0 x = (q, y) ∧ q.kind = q0.kind ∧ q.engine = q0.engine ∧ q.leaves = q0.leaves ∧ (∀ i ∈ l, numQ q i < 18446744073709551616) ∧ (∀ i, i < 5 → i ∉ l → numQ q i = numQ q0 i) ∧ y.s = x.s ∧ y.f = none ∧ y.done = x.done ++ numsB q l
  | [], q0, x, _, _, h => ⟨h, q0, x, rfl, rfl, rfl, rfl, fun i hi => by simp at hi, fun _ _ _ => rfl, rfl, h, by simp [numsB]⟩
  | i :: l, q0, x, hn, hl, h => by
    have hi := hl i (by simp)
    have hni := (List.nodup_cons.1 hn).1
    obtain ⟨f1, q, y, e1, k1, k2, k3, k4, k5, k6, k7, k8⟩ := decNums_got l (setQ q0 i x.var.1) x.var.2 (List.nodup_cons.1 hn).2 (fun j hj => hl j (by simp [hj])) h
    obtain ⟨f0, n, x1, e0, lt0, s0, _, d0⟩ := var_got f1
    obtain ⟨g1, g2, g3⟩ := set_rest q0 i x.var.1
    have hq : numQ q i = n := by rw [k5 i hi hni, num_set _ _ _ _ hi hi, if_pos rfl, e0]
    refine ⟨f0, q, y, e1, k1.trans g1, k2.trans g2, k3.trans g3, fun j hj => ?_, fun j hj hjn => ?_, ?_, k7, ?_⟩
    · rcases List.mem_cons.1 hj with rfl | hj
      · rw [hq]; exact lt0
      · exact k4 j hj
    · rw [k5 j hj (fun e => hjn (by simp [e])), num_set _ _ _ _ hi hj, if_neg (fun e => hjn (by simp [e]))]
    · rw [k6, e0]; exact s0
    · rw [k8, e0, d0]
      simp only [numsB, List.flatMap_cons, hq, List.append_assoc]
theorem decTexts_got : ∀ (n : Nat) (x : RdD), (decTexts n x).2.f = none →
    x.f = none ∧ ∃ ls y, decTexts n x = (ls, y) ∧ ls.length = n ∧ (∀ t ∈ ls, t.size ≤ 65536) ∧ y.s = x.s ∧ y.f = none ∧ y.done = x.done ++ textsB ls
  | 0, x, h => ⟨h, [], x, rfl, rfl, fun t ht => by simp at ht, rfl, h, by simp [textsB]⟩
  | n + 1, x, h => by
    obtain ⟨f1, ls, y, e1, l1, t1, s1, f2, d1⟩ := decTexts_got n (x.text 65536).2 h
    obtain ⟨f0, t, x1, e0, lt0, s0, _, d0, _⟩ := text_got (m := 65536) f1
    have e0' : x.text 65536 = (t, x1) := e0
    rw [e0'] at e1 s1 d1
    simp only at e1 s1 d1
    refine ⟨f0, str t :: ls, y, ?_, by simp [l1], fun u hu => ?_, s1.trans s0, f2, ?_⟩
    · unfold decTexts; rw [e0']; simp only; rw [e1]
    · rcases List.mem_cons.1 hu with rfl | hu
      · rw [str_size]; exact lt0
      · exact t1 u hu
    · rw [d1, d0]
      simp only [textsB, List.flatMap_cons, str_size, str_len, List.append_assoc]
theorem askN_nodup (k : Nat) : (askN k).Nodup := by unfold askN; split <;> simp
theorem done_all {x : RdD} {s : ByteArray} (hs : x.s = s) (h : x.fin = none) : x.done = s.data.toList := by
  have hf := fin_none _ h
  have : ¬ x.pos < x.s.size := fun hlt => by unfold RdD.fin at h; rw [if_pos ⟨hf, hlt⟩] at h; cases h
  unfold RdD.done
  rw [hs] at this ⊢
  exact List.take_of_length_le (by rw [Array.length_toList]; show s.size ≤ _; omega)
/-- What is read may be, and is written as it was read. -/
theorem back_read {s : ByteArray} {b : QryD} (h : decQ s = (b, none)) : b.Ok ∧ mayB b = true ∧ ¬ bigQ b.leaves ∧ b.body = s.data.toList ∧ s.size ≤ 1048576 := by
  have hlen : s.data.toList.length = s.size := by rw [Array.length_toList]; rfl
  by_cases hl : 1048576 < s.size
  · unfold decQ at h; rw [if_pos hl] at h; cases h
  · cases hd : s.data.toList with
    | nil => unfold decQ at h; rw [if_neg hl, hd] at h; cases h
    | cons c l =>
      by_cases h1 : okQ c.toNat = true
      · cases l with
        | nil => unfold decQ at h; rw [if_neg hl, hd] at h; simp only [h1, Bool.true_eq_false, if_false] at h; cases h
        | cons d l =>
          by_cases h2 : goesB c.toNat d.toNat = true
          · rw [decQ_cons s hl c d l hd h1 h2] at h
            have hx0 : RdD.done ⟨s, 2, none⟩ = [c, d] := by unfold RdD.done; simp only; rw [hd]; rfl
            have hfin : ∀ (q : QryD) (x : RdD), finQ q x = (b, none) → b = q ∧ x.fin = none := fun q x h => by
              unfold finQ at h
              split at h
              · rename_i hf; exact ⟨(Prod.mk.inj h).1.symm, hf⟩
              · rename_i hf; exact absurd (Prod.mk.inj h).2 hf
            have hmem := fun i hi => askN_mem c.toNat i hi
            have base : ∀ (q : QryD) (lv : List ByteArray), q.kind = c.toNat → q.engine = d.toNat → (∀ i ∈ askN c.toNat, numQ q i < 18446744073709551616) → (∀ i, i < 5 → i ∉ askN c.toNat → numQ q i = 0) → (askL c.toNat = true ∨ lv = []) → lv.length ≤ 4096 → (∀ t ∈ lv, t.size ≤ 65536) → s.data.toList = [c, d] ++ numsB q (askN c.toNat) ++ (if askL c.toNat then varB lv.length ++ textsB lv else []) →
                ({ q with leaves := lv } : QryD).Ok ∧ mayB { q with leaves := lv } = true ∧ ¬ bigQ lv ∧ ({ q with leaves := lv } : QryD).body = s.data.toList := fun q lv e1 e2 e3 e4 e5 e6 e7 e8 => by
              have hnum : ∀ i, i < 5 → numQ q i < 18446744073709551616 := fun i hi => by
                by_cases hm : i ∈ askN c.toNat
                · exact e3 i hm
                · rw [e4 i hi hm]; decide
              refine ⟨⟨by show q.kind < 256; rw [e1]; exact c.toNat_lt, by show q.engine < 256; rw [e2]; exact d.toNat_lt, hnum 0 (by omega), hnum 1 (by omega), hnum 2 (by omega), hnum 3 (by omega), hnum 4 (by omega), by show lv.length ≤ _; omega, fun t ht => by have := e7 t ht; omega⟩, ?_, ?_, ?_⟩
              · unfold mayB
                simp only [Bool.and_eq_true]
                refine ⟨by show okQ q.kind = true; rw [e1]; exact h1, by show goesB q.kind q.engine = true; rw [e1, e2]; exact h2, ?_, ?_⟩
                · show (askL q.kind || lv.length == 0) = true
                  rw [e1]
                  rcases e5 with e5 | rfl
                  · rw [e5]; rfl
                  · simp
                · rw [List.all_eq_true]
                  intro i hi
                  have hi5 : i < 5 := List.mem_range.1 hi
                  unfold mayNum
                  show (numQ q i == 0 || decide (i ∈ askN q.kind)) = true
                  rw [e1]
                  by_cases hm : i ∈ askN c.toNat
                  · simp [hm]
                  · rw [e4 i hi5 hm]; rfl
              · rintro (hb | ⟨t, ht, hb⟩ | hb)
                · omega
                · have := e7 t ht; omega
                · have h5 := congrArg List.length e8
                  rw [hlen] at h5
                  have h6 := textsB_more lv
                  rcases e5 with e5 | rfl
                  · rw [if_pos e5] at h5
                    simp only [List.length_append] at h5
                    omega
                  · simp [sizes] at hb
              · rw [e8]
                unfold QryD.body headB
                show fixB 1 q.kind ++ fixB 1 q.engine ++ numsB q (askN q.kind) ++ (if askL q.kind then varB lv.length ++ textsB lv else []) = _
                rw [e1, e2, fixB1 _ c.toNat_lt, fixB1 _ d.toNat_lt, u8_of, u8_of]
                rfl
            have got := decNums_got (askN c.toNat) ⟨c.toNat, d.toNat, 0, 0, 0, 0, 0, []⟩ ⟨s, 2, none⟩ (askN_nodup c.toNat) hmem
            generalize decNums (askN c.toNat) ⟨c.toNat, d.toNat, 0, 0, 0, 0, 0, []⟩ ⟨s, 2, none⟩ = r at h got
            obtain ⟨q, y0⟩ := r
            have zero : ∀ i, numQ ⟨c.toNat, d.toNat, 0, 0, 0, 0, 0, []⟩ i = 0 := fun i => by unfold numQ; split <;> rfl
            by_cases hL : askL c.toNat = true
            · rw [if_pos hL] at h
              unfold leafQ at h
              simp only at h
              have got1 := var_got (x := y0)
              generalize y0.var = v1 at h got1
              obtain ⟨n, y1⟩ := v1
              simp only at h got1
              by_cases hn : 4096 < n
              · rw [if_pos hn] at h; cases h
              · rw [if_neg hn] at h
                have got2 := decTexts_got n y1
                generalize decTexts n y1 = v2 at h got2
                obtain ⟨ls, y2⟩ := v2
                obtain ⟨rfl, hf⟩ := hfin _ _ h
                simp only at hf got2
                obtain ⟨f2, _, _, a1, a2, a3, a4, a5, a6⟩ := got2 (fin_none _ hf)
                cases a1
                obtain ⟨f1, _, _, b1, b2, b3, b4, b5⟩ := got1 f2
                cases b1
                obtain ⟨_, _, _, c1, c2, c3, c4, c5, c6, c7, c8, c9⟩ := got f1
                cases c1
                have hd2 := done_all (show y2.s = s by rw [a4, b3, c7]) hf
                rw [a6, b5, c9, hx0] at hd2
                obtain ⟨r1, r2, r3, r4⟩ := base q ls c2 c3 c5 (fun i hi hm => by rw [c6 i hi hm]; exact zero i) (.inl hL) (by omega) a3 (by rw [← hd2, if_pos hL, a2]; simp)
                exact ⟨r1, r2, r3, by rw [r4, hd], by omega⟩
            · rw [if_neg hL] at h
              obtain ⟨rfl, hf⟩ := hfin _ _ h
              simp only at hf got
              obtain ⟨_, _, _, c1, c2, c3, c4, c5, c6, c7, c8, c9⟩ := got (fin_none _ hf)
              cases c1
              have hd2 := done_all (show y0.s = s by rw [c7]) hf
              rw [c9, hx0] at hd2
              obtain ⟨r1, r2, r3, r4⟩ := base b [] c2 c3 c5 (fun i hi hm => by rw [c6 i hi hm]; exact zero i) (.inr rfl) (by simp) (fun t ht => by simp at ht) (by rw [← hd2, if_neg hL]; simp)
              have hq : ({ b with leaves := [] } : QryD) = b := by
                obtain ⟨k, e, sz, ix, od, bg, fi, lv⟩ := b
                simp only at c4
                rw [c4]
              rw [hq] at r1 r2 r4
              exact ⟨r1, r2, by rw [c4]; exact r3, by rw [r4, hd], by omega⟩
          · have h2 : goesB c.toNat d.toNat = false := by simpa using h2
            unfold decQ at h; rw [if_neg hl, hd] at h; simp only [h1, h2, Bool.true_eq_false, if_false, if_true] at h; cases h
      · have h1 : okQ c.toNat = false := by simpa using h1
        unfold decQ at h; rw [if_neg hl, hd] at h; simp only [h1, if_true] at h; cases h

/-- DecodeQuery, of any bytes. -/
theorem decQ_own {B : Nat} {se : Nat → Addr} {w : World} (G : Genv B se w) (A : Asks B w) (s : ByteArray) (hs : s.size ≤ 9223372036854775807) :
    Calls Tryz.prog 15 #[.string s] w (DecQPostO se w (decQ s)) := by
  by_cases hl : 1048576 < s.size
  · have e : decQ s = (zeroQ, some (4, none)) := by unfold decQ; rw [if_pos hl]
    rw [e]; exact decQ_long G s hl hs
  · cases hd : s.data.toList with
    | nil =>
      have e : decQ s = (zeroQ, some (3, some 0)) := by unfold decQ; rw [if_neg hl, hd]
      have e2 : s = ⟨#[]⟩ := by
        have := str_toList s
        rw [hd] at this
        exact this.symm
      rw [e, e2]; exact decQ_empty G
    | cons c l =>
      by_cases hL : askL c.toNat = true
      · exact decQ_leaves G A s (by omega) c l hd hL
      · exact decQ_main G A s (by omega) c l hd (by simpa using hL)
theorem decQ_any {B : Nat} {se : Nat → Addr} {w : World} (G : Genv B se w) (A : Asks B w) (s : ByteArray) (hs : s.size ≤ 9223372036854775807) :
    Calls Tryz.prog 15 #[.string s] w (DecQPost se w (decQ s)) := (decQ_own G A s hs).mono fun _ _ h => h.post
set_option maxRecDepth 8000 in
set_option maxHeartbeats 4000000 in
theorem textsSize_any {w : World} {a : Option Addr} {l : List ByteArray} (h : TextsAt w a l) (ca : Nat) (hl : sizes l + l.length ≤ 1048576) : Calls Tryz.prog 7 #[.slice a l.length ca] w fun e w' => e = .returned (.int .i64 ((sizes l + l.length : Nat) : Int)) ∧ w = w' := by
  have HH := Lib.hid h
  have HL := Lib.hid hl
  clear h hl
  go_enter Tryz.func7, Tryz.ntmps7
  go_wp2_with fail
  go_loopw [3, 4] (fun tv iv wr => ∃ j m : Nat, j ≤ l.length ∧ iv = .int .i64 j ∧ tv = .int .i64 m ∧ m = sizes (l.take j) + j ∧ w = wr) (fun _ iv _ => l.length - (RowKit.intOf iv).toNat)
  case atStart => exact ⟨0, 0, by omega, rfl, rfl, by simp [sizes], rfl⟩
  case round =>
    obtain ⟨j, m, hj, rfl, rfl, hm, rfl⟩ := hrel
    have hst := sizes_take l j
    have hm2 : m ≤ 1048576 := by have := HL.out; omega
    have hm3 : (m : Int) ≤ 1048576 := by omega
    have HM := Lib.hid hm
    clear hm hst
    by_cases hlt : j < l.length
    · have hg := List.getElem?_eq_getElem hlt
      generalize l[j] = s at hg
      obtain ⟨h1, b, o, rfl, hc⟩ := HH.out j s hg
      have hs1 := sizes_take_succ l j s hg
      have hs2 := sizes_take l (j + 1)
      have HS := Lib.hid (show sizes (l.take (j + 1)) = sizes (l.take j) + s.size ∧ m + 1 + s.size ≤ 1048576 by have := HL.out; have := HM.out; omega)
      have hlti : (j : Int) < l.length := by omega
      have HW := Lib.hid (show wrap64 ((m : Int) + 1 + s.size) = ((m + 1 + s.size : Nat) : Int) ∧ wrap64 ((j : Int) + 1) = ((j + 1 : Nat) : Int) by have := HS.out.2; have := HL.out; unfold wrap64; omega)
      clear hg h1 hs1 hs2 hm2
      go_wp2_with fail
      have hm4 : (RowKit.intOf (.int .i64 (wrap64 ((j : Int) + 1)))).toNat = j + 1 := by rw [HW.out.2]; simp [RowKit.intOf]
      refine ⟨⟨j + 1, m + 1 + s.size, by omega, by rw [HW.out.2], by rw [HW.out.1], by have := HS.out; have := HM.out; omega, by trivial⟩, ?_⟩
      have hm5 : (RowKit.intOf (.int .i64 (j : Int))).toNat = j := by simp [RowKit.intOf]
      show l.length - (RowKit.intOf (.int .i64 (wrap64 ((j : Int) + 1)))).toNat < l.length - (RowKit.intOf (.int .i64 (j : Int))).toNat
      rw [hm4, hm5]; omega
    · obtain rfl : j = l.length := by omega
      have e : m = sizes l + l.length := by rw [HM.out, List.take_length]
      have HE := Lib.hid e
      clear e hm2
      go_wp2_with fail
      go_ret
      exact ⟨by first | (rw [HE.out]; rfl) | rw [HE.out], rfl⟩
end Go.Proofs.YtljnhelnmnomoaaGreatDoor
