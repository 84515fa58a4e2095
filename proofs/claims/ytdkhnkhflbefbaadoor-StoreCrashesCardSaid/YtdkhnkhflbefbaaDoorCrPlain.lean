/- Plain: a store that crashes at a put: how it stands behind so many. -/
import Derived.Test.YtdkhnkhflbefbaaDoorNamed
namespace Go.Proofs.YtdkhnkhflbefbaaDoor
open Go.RowKit Go.Lib Go.Sort

/-- The put at which it crashes, as the statement has it. -/
def crAt (c : Int) : Int := if c < 0 then (if c = -9223372036854775808 then c else -c) else c
/-- How many writes are kept of the first k. -/
def keptN (c : Int) (k : Nat) : Nat := if 1 ≤ crAt c ∧ crAt c ≤ k then (if c < 0 then (crAt c).toNat else (crAt c).toNat - 1) else k
structure CrS (ws : TxtL) (c : Int) (k : Nat) (x : StD) : Prop where
  rs : x.rs = []
  crash : x.crash = c
  texts : x.texts = putN ws (keptN c k)
  dead : x.dead = decide (1 ≤ crAt c ∧ crAt c ≤ k)
  nw : x.dead = false → x.nw = k
  nwle : x.nw ≤ k
theorem putN_succ (ws : TxtL) (k : Nat) (h : k < ws.length) : putN ws (k + 1) = putL (putN ws k) ws[k].1 ws[k].2 := by
  show (match ws[k]? with | some p => putL (putN ws k) p.1 p.2 | none => putN ws k) = _
  rw [List.getElem?_eq_getElem h]
theorem cr_start (ws : TxtL) (c : Int) : CrS ws c 0 ⟨[], [], c, 0, 0, false⟩ := by
  have h : ¬ (1 ≤ crAt c ∧ crAt c ≤ ((0 : Nat) : Int)) := by omega
  refine ⟨rfl, rfl, ?_, (decide_eq_false h).symm, fun _ => rfl, Nat.le_refl _⟩
  unfold keptN
  rw [if_neg h]; rfl
theorem kept_le (c : Int) (k : Nat) : keptN c k ≤ k := by
  unfold keptN
  split
  · split <;> omega
  · omega
theorem kept_in (c : Int) (k : Nat) (h1 : 1 ≤ crAt c) (h2 : crAt c ≤ k) : keptN c (k + 1) = keptN c k := by
  unfold keptN
  rw [if_pos (show 1 ≤ crAt c ∧ crAt c ≤ ((k + 1 : Nat) : Int) from ⟨h1, by omega⟩), if_pos (show 1 ≤ crAt c ∧ crAt c ≤ (k : Int) from ⟨h1, h2⟩)]
theorem kept_out (c : Int) (k : Nat) (h : ¬ (1 ≤ crAt c ∧ crAt c ≤ k)) : keptN c k = k := by
  unfold keptN
  rw [if_neg h]
theorem kept_neg (c : Int) (k : Nat) (h : crAt c = (k : Int) + 1) (hc : c < 0) : keptN c (k + 1) = k + 1 := by
  unfold keptN
  rw [if_pos ⟨by omega, by omega⟩, if_pos hc]; omega
theorem kept_pos (c : Int) (k : Nat) (h : crAt c = (k : Int) + 1) (hc : ¬ c < 0) : keptN c (k + 1) = k := by
  unfold keptN
  rw [if_pos ⟨by omega, by omega⟩, if_neg hc]; omega
theorem crAt_neg (c : Int) (k : Nat) (hk : k < 200) (h : crAt c = (k : Int) + 1) (hc : c < 0) : c = -((k : Int) + 1) := by
  unfold crAt at h
  rw [if_pos hc] at h
  split at h <;> omega
theorem crAt_pos (c : Int) (hc : ¬ c < 0) : crAt c = c := by unfold crAt; rw [if_neg hc]
theorem crAt_not (c : Int) (k : Nat) (hk : k < 200) (h : ¬ crAt c = (k : Int) + 1) : c ≠ (k : Int) + 1 ∧ c ≠ -((k : Int) + 1) := by
  unfold crAt at h
  split at h
  · split at h <;> omega
  · omega
theorem refuse_ok {x : StD} {s : ByteArray} (hn : nameOk s = true) (hd : x.dead = false) : x.refuse s = none := by unfold StD.refuse; rw [hn, hd]; rfl
theorem refuse_dead {x : StD} {s : ByteArray} (hn : nameOk s = true) (hd : x.dead = true) : x.refuse s = some (8, none) := by unfold StD.refuse; rw [hn, hd]; rfl
theorem cr_dead {ws : TxtL} {c : Int} {k : Nat} {x : StD} (h : CrS ws c k x) (h1 : 1 ≤ crAt c) (h2 : crAt c ≤ k) {s t : ByteArray} (hn : nameOk s = true) : CrS ws c (k + 1) (x.put s t).1 ∧ (x.put s t).2 = some (8, none) := by
  have hd : x.dead = true := h.dead.trans (decide_eq_true ⟨h1, h2⟩)
  have e : x.put s t = (x, some (8, none)) := by unfold StD.put; rw [refuse_dead hn hd]
  rw [e]
  exact ⟨⟨h.rs, h.crash, by rw [kept_in c k h1 h2]; exact h.texts, by rw [hd]; exact (decide_eq_true ⟨h1, by omega⟩).symm, fun e => (by rw [hd] at e; cases e), Nat.le_succ_of_le h.nwle⟩, rfl⟩
theorem cr_hit {ws : TxtL} {c : Int} {k : Nat} {x : StD} (h : CrS ws c k x) (hk : k < 200) (hl : k < ws.length) (h1 : crAt c = (k : Int) + 1) (hn : nameOk ws[k].1 = true) : CrS ws c (k + 1) (x.put ws[k].1 ws[k].2).1 ∧ (x.put ws[k].1 ws[k].2).2 = some (8, none) := by
  have hnot : ¬ (1 ≤ crAt c ∧ crAt c ≤ k) := by omega
  have hd : x.dead = false := h.dead.trans (decide_eq_false hnot)
  have hw := h.nw hd
  have ht := h.texts
  rw [kept_out c k hnot] at ht
  by_cases hc : c < 0
  · have ec := crAt_neg c k hk h1 hc
    have e : x.put ws[k].1 ws[k].2 = ({ x with nw := x.nw + 1, texts := putL x.texts ws[k].1 ws[k].2, dead := true }, some (8, none)) := by
      unfold StD.put
      rw [refuse_ok hn hd]
      simp only
      rw [if_neg (by rw [h.crash, hw]; omega), if_pos (by rw [h.crash, hw]; exact ec)]
    rw [e]
    exact ⟨⟨h.rs, h.crash, by rw [kept_neg c k h1 hc, putN_succ ws k hl]; show putL x.texts _ _ = _; rw [ht], (decide_eq_true ⟨by omega, by omega⟩).symm, fun e => (by cases e), Nat.succ_le_succ h.nwle⟩, rfl⟩
  · have ec := crAt_pos c hc
    have e : x.put ws[k].1 ws[k].2 = ({ x with nw := x.nw + 1, dead := true }, some (8, none)) := by
      unfold StD.put
      rw [refuse_ok hn hd]
      simp only
      rw [if_pos (by rw [h.crash, hw]; omega)]
    rw [e]
    exact ⟨⟨h.rs, h.crash, by rw [kept_pos c k h1 hc]; exact ht, (decide_eq_true ⟨by omega, by omega⟩).symm, fun e => (by cases e), Nat.succ_le_succ h.nwle⟩, rfl⟩
theorem cr_on {ws : TxtL} {c : Int} {k : Nat} {x : StD} (h : CrS ws c k x) (hk : k < 200) (hl : k < ws.length) (h1 : ¬ (1 ≤ crAt c ∧ crAt c ≤ (k : Int) + 1)) (hn : nameOk ws[k].1 = true) : CrS ws c (k + 1) (x.put ws[k].1 ws[k].2).1 ∧ (x.put ws[k].1 ws[k].2).2 = none ∧ keptN c k = k ∧ keptN c (k + 1) = k + 1 := by
  have hnot : ¬ (1 ≤ crAt c ∧ crAt c ≤ k) := by omega
  have hnot2 : ¬ (1 ≤ crAt c ∧ crAt c ≤ ((k + 1 : Nat) : Int)) := by omega
  have hd : x.dead = false := h.dead.trans (decide_eq_false hnot)
  have hw := h.nw hd
  have ht := h.texts
  rw [kept_out c k hnot] at ht
  have en := crAt_not c k hk (by omega)
  have e : x.put ws[k].1 ws[k].2 = ({ x with nw := x.nw + 1, texts := putL x.texts ws[k].1 ws[k].2 }, none) := by
    unfold StD.put
    rw [refuse_ok hn hd]
    simp only
    rw [if_neg (by rw [h.crash, hw]; exact en.1), if_neg (by rw [h.crash, hw]; exact en.2)]
  rw [e]
  exact ⟨⟨h.rs, h.crash, by rw [kept_out c _ hnot2, putN_succ ws k hl]; show putL x.texts _ _ = _; rw [ht], by show x.dead = _; rw [hd]; exact (decide_eq_false hnot2).symm, fun _ => (by show x.nw + 1 = _; rw [hw]), Nat.succ_le_succ h.nwle⟩, rfl, kept_out c k hnot, kept_out c _ hnot2⟩
/-- A text asked behind a restart without trouble. -/
theorem get_calm {x : StD} {s : ByteArray} (hr : x.rs = []) (hd : x.dead = false) (hn : nameOk s = true) : x.get s = ({ x with nr := x.nr + 1 }, (lookL x.texts s).getD ⟨#[]⟩, if (lookL x.texts s).isSome then none else some (6, none)) := by
  unfold StD.get
  rw [refuse_ok hn hd]
  simp only
  rw [if_neg (by rw [hr]; simp)]
end Go.Proofs.YtdkhnkhflbefbaaDoor
