/- Rows of a call's own: read, written into, appended to; lists that a Book holds. -/
import Derived.Test.YtdkhnkhflbefbaaGreatDoorQApp
import Derived.Test.YtdkhnkhflbefbaaGreatDoorRefOps
import Derived.Test.YtdkhnkhflbefbaaGreatDoorWord
import Derived.Test.YtdkhnkhflbefbaaGreatDoorTy
namespace Go.Proofs.YtdkhnkhflbefbaaGreatDoor
open Go.RowKit Go.Lib

section
variable {W W' : World} {B : Nat} {e : TypeId} {size : Nat} {v : Value} {n : Nat} {xs : List Value}
theorem own_at (h : W.ownsRow B e size v n xs) (hn : 0 < n) : ∃ g cap cl, v = .slice (some ⟨g, 0, none⟩) n cap ∧ B ≤ g ∧ W.heap[g]? = some (.cells cl e (0, 0)) ∧ ∀ (j : Nat) (u : Value), xs[j]? = some u → cl[j]? = some u := by
  rcases h.2 with ⟨_, h0⟩ | ⟨g, cap, cur, hv, hb, hg, hnc, hcm, hcs, ht⟩
  · omega
  · refine ⟨g, cap, cur, hv, hb, hg, fun j u hu => ?_⟩
    rw [← ht] at hu
    have hj := (List.getElem?_eq_some_iff.1 hu).1
    rw [List.length_take] at hj
    rw [List.getElem?_take, if_pos (by omega)] at hu
    simpa using hu
theorem own_ty (h : W.ownsRow B e size v n xs) {g : Nat} (hg : v.ownBlock = some g) : ∃ cl, W.heap[g]? = some (.cells cl e (0, 0)) := by
  rcases h.2 with ⟨hv, _⟩ | ⟨g', cap, cur, hv, hb, hgg, rest⟩
  · rw [hv] at hg; cases hg
  · rw [hv] at hg
    obtain rfl : g' = g := by simpa [Value.ownBlock] using hg
    exact ⟨cur, hgg⟩
theorem own_apart {e' : TypeId} {size' n' B' : Nat} {v' : Value} {xs' : List Value} (h : W.ownsRow B e size v n xs) (h' : W.ownsRow B' e' size' v' n' xs') (hne : e ≠ e') {g : Nat} (hg : v.ownBlock = some g) : v'.ownBlock ≠ some g := fun hg' => by
  obtain ⟨c1, h1⟩ := own_ty h hg
  obtain ⟨c2, h2⟩ := own_ty h' hg'
  rw [h1] at h2
  simp only [Option.some.injEq, Obj.cells.injEq] at h2
  exact hne h2.2.1
theorem own_set (h : W.ownsRow B e size v n xs) {g : Nat} (hg : v.ownBlock = some g) (c : Nat) (u : Value) : (W.setCell ⟨g, c, none⟩ u).ownsRow B e size v n (xs.set c u) := by
  refine ⟨by rw [List.length_set]; exact h.1, ?_⟩
  rcases h.2 with ⟨hv, _⟩ | ⟨g', cap, cur, hv, hb, hgg, hnc, hcm, hcs, ht⟩
  · rw [hv] at hg; cases hg
  · rw [hv] at hg
    obtain rfl : g' = g := by simpa [Value.ownBlock] using hg
    refine .inr ⟨g', cap, _, hv, hb, blk_set hgg c u, hnc, hcm, by simpa using hcs, ?_⟩
    rw [← ht]
    simp [List.take_set]
theorem own_slice (h : W.ownsRow B e size v n xs) : ∃ a cap, v = .slice a n cap := by
  rcases h.2 with ⟨hv, h0⟩ | ⟨g', cap, cur, hv, _⟩
  · exact ⟨none, 0, by rw [hv, h0]⟩
  · exact ⟨_, _, hv⟩
/-- The slice v of n elements, each of them the cells m. -/
def ReadV (W : World) (v : Value) (n : Nat) (m : List Value) : Prop :=
  ∃ a cap, v = .slice a n cap ∧ ∀ k, k < n → ∃ g, a = some ⟨g, 0, none⟩ ∧ ∀ (j : Nat) (u : Value), m[j]? = some u → W.cell? ⟨g, k * m.length + j, none⟩ = some u
theorem ReadV.upd {S : Nat → Prop} {m : List Value} (h : ReadV W v n m) (u : Upd S W W') (hS : ∀ g, v.ownBlock = some g → ¬ S g) : ReadV W' v n m := by
  obtain ⟨a, cap, rfl, hk⟩ := h
  refine ⟨a, cap, rfl, fun k hkn => ?_⟩
  obtain ⟨g, rfl, hj⟩ := hk k hkn
  exact ⟨g, rfl, fun j v hv => by
    have := hj j v hv
    rw [← this]
    exact Upd.cell u (lt_of_cell this) (hS g rfl)⟩
theorem ReadV.ext {m : List Value} (h : ReadV W v n m) (u : Ext W W') : ReadV W' v n m := h.upd u (fun _ _ hk => hk)
theorem flat_rep (m : List Value) : ∀ (n k j : Nat), k < n → j < m.length → ((List.replicate n m).flatMap id)[k * m.length + j]? = m[j]? := by
  intro n
  induction n with
  | zero => intro k j h _; omega
  | succ n ih =>
    intro k j hk hj
    rw [List.replicate_succ, List.flatMap_cons, id]
    cases k with
    | zero => rw [Nat.zero_mul, Nat.zero_add, List.getElem?_append_left hj]
    | succ k => rw [List.getElem?_append_right (by rw [Nat.succ_mul]; omega), ← ih k j (by omega) hj]; congr 1; rw [Nat.succ_mul]; omega
/-- So many times the cells m. -/
def repL (n : Nat) (m : List Value) : List Value := (List.replicate n m).flatMap id
theorem repL_succ (n : Nat) (m : List Value) : repL (n + 1) m = repL n m ++ m := by unfold repL; rw [List.replicate_succ', List.flatMap_append]; simp
theorem repL_len (n : Nat) (m : List Value) : (repL n m).length = n * m.length := by
  induction n with
  | zero => simp [repL]
  | succ n ih => rw [repL_succ, List.length_append, ih, Nat.succ_mul]
theorem own_read {m : List Value} {k : Nat} {a : Option Addr} {cap capv : Nat} (h : W.ownsRow B e size (.slice a (n + k) cap) (n + k) (repL (n + k) m)) : ReadV W (.slice a n capv) n m := by
  refine ⟨a, capv, rfl, fun i hi => ?_⟩
  obtain ⟨g, cap', cl, hv, _, hg, hc⟩ := own_at h (by omega)
  simp only [Value.slice.injEq] at hv
  refine ⟨g, hv.1, fun j u hu => ?_⟩
  rw [cell_of_blk hg]
  refine hc _ u ?_
  unfold repL
  rw [flat_rep m _ _ _ (by omega) (List.getElem?_eq_some_iff.1 hu).1]
  exact hu
end
section
variable {P : Program}
/-- append_block, and: where the row lies anew, the elder memory stays. -/
theorem append_block2 (w : World) (base : Nat) (t ty e : TypeId) (i : TypeInfo) (z : Value) (ht : P.underlying t = some (.slice e)) (hi : P.info? e = some i) (hz : i.zero = some z)
    (v : Value) (n : Nat) (xs : List Value) (hown : w.ownsRow base e i.size v n xs)
    (a : Addr) (m c : Nat) (news : List Value) (hl : news.length = m * i.size) (hnews : ∀ j u, news[j]? = some u → w.cell? (a.add j) = some u) (h1 : ∀ u ∈ news, u.oneCell' = true)
    (h63 : n + m ≤ maxLen) (hbytes : (n + m) * i.bytes ≤ 140737488355328) (v' : Value) (w' : World)
    (hr : (Builtin.append_ #[t, t] ty #[v, .slice (some a) m c]).run P w = .ok v' w') : v'.ownBlock = v.ownBlock ∨ (v'.ownBlock = some w.heap.size ∧ Ext w w') := by
  have hsmall : n + m ≤ 9223372036854775807 := by simp only [maxLen] at h63; omega
  rcases hown.2 with ⟨rfl, rfl⟩ | ⟨g, cap, cur, rfl, hbg, hg, hnc, hcm, hcs, htake⟩
  · by_cases hm : m = 0
    · subst hm
      have e2 : (Builtin.append_ #[t, t] ty #[.slice none 0 0, .slice (some a) 0 c]).run P w = .ok (.slice none 0 0) w := by
        simp [Builtin.append_, run_underlying ht, sizeOf, typeInfo, hi, Builtin.lenOf, Builtin.firstCells, loadCells, loadCellsFrom]
      rw [e2] at hr
      cases hr
      exact .inl rfl
    · have e2 := run_append_nil (P := P) w t ty e i z ht hi hz a m c news hl hnews (by omega) (by omega) (by have hb := hbytes; simp only [Nat.zero_add] at hb; omega)
      rw [e2] at hr
      cases hr
      exact .inr ⟨rfl, ((Upd.refl none' w).drew).alloc _⟩
  · by_cases hroom : n + m ≤ cap
    · have hfit : n * i.size + news.length ≤ cur.size := by rw [hl, hcs, ← Nat.add_mul]; exact Nat.mul_le_mul_right _ hroom
      have e2 := run_append_room (P := P) w t ty e i ht hi g n cap cur hg a m c news hl hnews h1 hroom hfit
      rw [e2] at hr
      cases hr
      exact .inl rfl
    · have holds : ∀ j u, xs[j]? = some u → w.cell? ((⟨g, 0, none⟩ : Addr).add j) = some u := hown.cells (g := g) rfl
      have e2 := run_append_grow (P := P) w t ty e i z ht hi hz ⟨g, 0, none⟩ n cap xs hown.1 holds a m c news hl hnews (by omega) (by omega) (growslice_fits (by omega) hbytes)
      rw [e2] at hr
      cases hr
      exact .inr ⟨rfl, ((Upd.refl none' w).drew).alloc _⟩
theorem wpList_app2 {w : World} {ops : Array Oper} {rest : List Oper} {o : Oper} {a : Act} {Q : Exit → Act → World → Prop} (hgd : o.guard = none) (s x : Operand) (t : TypeId)
    (ho : o.op = .call { callee := .builtin .append, args := #[s, x], argTypes := #[t, t] })
    (base : Nat) (e : TypeId) (i : TypeInfo) (z : Value) (size bytes : Nat) (ht : P.underlying t = some (.slice e)) (hi : P.info? e = some i) (hz : i.zero = some z)
    (hsize : i.size = size) (hby : i.bytes = bytes) (hzs : z.cells.size = size) (hsz : 0 < size)
    (v : Value) (n : Nat) (xs : List Value) (hs : a.eval s = v) (hown : w.ownsRow base e size v n xs)
    (ad : Addr) (m c : Nat) (news : List Value) (hx : a.eval x = .slice (some ad) m c) (hl : news.length = m * size) (hnews : ∀ j u, news[j]? = some u → w.cell? (ad.add j) = some u) (h1 : ∀ u ∈ news, u.oneCell' = true)
    (h63 : n + m ≤ maxLen) (hbytes : (n + m) * bytes ≤ 140737488355328) (hbase : base ≤ w.heap.size)
    (h : ∀ v' w', w'.ownsRow base e size v' (n + m) (xs ++ news) → w.grownBy w' v.ownBlock → (v'.ownBlock = v.ownBlock ∨ (v'.ownBlock = some w.heap.size ∧ Ext w w')) → wpList P ops Q rest (a.put o.dst v') w') : wpList P ops Q (o :: rest) a w := by
  refine wpList_plain hgd fun K hK => ?_
  obtain ⟨v', w', hr, h2, h3, _⟩ := run_append_own (P := P) w base t o.type e i z size bytes ht hi hz hsize hby hzs hsz v n xs hown ad m c news hl hnews h1 h63 hbytes hbase
  subst hsize
  subst hby
  have h4 := append_block2 w base t o.type e i z ht hi hz v n xs hown ad m c news hl hnews h1 h63 hbytes v' w' hr
  unfold Oper.wp execOp
  simp only [ho, resolve, invoke, builtin, Sem.run_bind, Sem.run_pure, Result.andThen_ok, List.map_toArray, List.map_cons, List.map_nil, hs, hx, hr]
  exact hK _ _ (h v' w' h2 h3 h4)
end
/-- A list that a Book holds: the list, what grows out of it, its length, its number. -/
structure HeldD where
  v : Value
  long : Value
  n : Nat
  num : Nat
def heldL (h : HeldD) : List Value := [h.v, h.long, .int .i64 h.num]
def heldsL (L : List HeldD) : List Value := L.flatMap heldL
theorem heldsL_len (L : List HeldD) : (heldsL L).length = L.length * 3 := by
  unfold heldsL
  induction L with
  | nil => rfl
  | cons a t ih => rw [List.flatMap_cons, List.length_append, ih, List.length_cons]; show 3 + _ = _; omega
theorem heldsL_at : ∀ (L : List HeldD) (i j : Nat) (h : HeldD), L[i]? = some h → j < 3 → (heldsL L)[i * 3 + j]? = (heldL h)[j]? := by
  intro L
  induction L with
  | nil => intro i j h hi; simp at hi
  | cons a t ih =>
    intro i j h hi hj
    unfold heldsL at ih ⊢
    rw [List.flatMap_cons]
    cases i with
    | zero =>
      obtain rfl : a = h := by simpa using hi
      rw [Nat.zero_mul, Nat.zero_add, List.getElem?_append_left (by show j < 3; exact hj)]
    | succ i =>
      rw [List.getElem?_append_right (by show 3 ≤ _; omega)]
      rw [← ih i j h (by simpa using hi) hj]
      congr 1
      show _ - 3 = _
      omega
theorem heldsL_long : ∀ (L : List HeldD) (i : Nat) (h : HeldD) (lv : Value), L[i]? = some h → (heldsL L).set (i * 3 + 1) lv = heldsL (L.set i { h with long := lv }) := by
  intro L
  induction L with
  | nil => intro i h lv hi; simp at hi
  | cons a t ih =>
    intro i h lv hi
    unfold heldsL at ih ⊢
    cases i with
    | zero =>
      obtain rfl : a = h := by simpa using hi
      rfl
    | succ i =>
      rw [List.flatMap_cons, List.set_cons_succ, List.flatMap_cons, ← ih i h lv (by simpa using hi), List.set_append_right _ _ (by show 3 ≤ _; omega)]
      congr 2
      show _ - 3 = _
      omega
/-- The blocks of lists. -/
def listBs (L : List HeldD) (g : Nat) : Prop := ∃ (i : Nat) (h : HeldD), L[i]? = some h ∧ h.v.ownBlock = some g
theorem held_one (v long : Value) (m : Int) (h1 : v.oneCell' = true) (h2 : long.oneCell' = true) : ∀ u ∈ ([v, long, .int .i64 m] : List Value), u.oneCell' = true := fun u hu => by
  simp only [List.mem_cons, List.not_mem_nil, or_false] at hu
  rcases hu with rfl | rfl | rfl
  · exact h1
  · exact h2
  · rfl
theorem Tab10.upd {w w' : World} {S : Nat → Prop} (h : Tab10 w) (u : Upd S w w') (hS : ¬ S 17) : Tab10 w' := by
  have hg : Tryz.prog.globalNamed "internal/strconv.uint64pow10" = some 17 := by kernel_rfl
  unfold Tab10 Lib.TabIs World.var? at *
  simp only [hg, Option.bind_some] at h ⊢
  cases hb : w.heap[17]? with
  | none => simp [hb] at h
  | some o => rw [u.blk hb hS]; rw [hb] at h; exact h
end Go.Proofs.YtdkhnkhflbefbaaGreatDoor
