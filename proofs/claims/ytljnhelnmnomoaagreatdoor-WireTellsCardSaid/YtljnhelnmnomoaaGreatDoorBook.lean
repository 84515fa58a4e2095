/- Rows of a call's own: read, written into, appended to; lists that a Book holds. A Book's texts: they are written over by marks, more is put behind each, and all are looked at. A Book's texts: more is put behind each. A Book's texts are looked at. A Book is told a list of texts. A Book's lists of a kind that it was not told: nothing is done, nothing is found. PRINTED by wip/tools/gen_booke.py. A Book that was told texts alone: Apart. PRINTED by wip/tools/gen_booka.py. -/
import Derived.Test.YtljnhelnmnomoaaGreatDoorQApp
import Derived.Test.YtljnhelnmnomoaaGreatDoorRefOps
import Derived.Test.YtljnhelnmnomoaaGreatDoorWord
import Derived.Test.YtljnhelnmnomoaaGreatDoorTyped
namespace Go.Proofs.YtljnhelnmnomoaaGreatDoor
open Go.RowKit Go.Lib


section
variable {W W' : World} {B : Nat} {e : TypeId} {size : Nat} {v : Value} {n : Nat} {xs : List Value}
theorem own_at (h : W.ownsRow B e size v n xs) (hn : 0 < n) : ∃ g cap cl, v = .slice (some ⟨g, 0, none⟩) n cap ∧ B ≤ g ∧ W.heap[g]? = some (.cells cl e (0, 0)) ∧ ∀ (j : Nat) (u : Value), xs[j]? = some u → cl[j]? = some u := by
  rcases h.2 with ⟨_, h0⟩ | ⟨g, cap, cur, hv, hb, hg, hnc, hcm, hcs, ht⟩
  · omega
  · refine ⟨g, cap, cur, hv, hb, hg, fun j u hu => ?_⟩
    rw [← ht] at hu
    have hj := (List.getElem?_eq_some_iff.1 hu).1
    rw [List.length_take] at hj
    rw [List.getElem?_take, if_pos (by omega)] at hu
    simpa using hu
theorem own_ty (h : W.ownsRow B e size v n xs) {g : Nat} (hg : v.ownBlock = some g) : ∃ cl, W.heap[g]? = some (.cells cl e (0, 0)) := by
  rcases h.2 with ⟨hv, _⟩ | ⟨g', cap, cur, hv, hb, hgg, rest⟩
  · rw [hv] at hg; cases hg
  · rw [hv] at hg
    obtain rfl : g' = g := by simpa [Value.ownBlock] using hg
    exact ⟨cur, hgg⟩
theorem own_apart {e' : TypeId} {size' n' B' : Nat} {v' : Value} {xs' : List Value} (h : W.ownsRow B e size v n xs) (h' : W.ownsRow B' e' size' v' n' xs') (hne : e ≠ e') {g : Nat} (hg : v.ownBlock = some g) : v'.ownBlock ≠ some g := fun hg' => by
  obtain ⟨c1, h1⟩ := own_ty h hg
  obtain ⟨c2, h2⟩ := own_ty h' hg'
  rw [h1] at h2
  simp only [Option.some.injEq, Obj.cells.injEq] at h2
  exact hne h2.2.1
theorem own_set (h : W.ownsRow B e size v n xs) {g : Nat} (hg : v.ownBlock = some g) (c : Nat) (u : Value) : (W.setCell ⟨g, c, none⟩ u).ownsRow B e size v n (xs.set c u) := by
  refine ⟨by rw [List.length_set]; exact h.1, ?_⟩
  rcases h.2 with ⟨hv, _⟩ | ⟨g', cap, cur, hv, hb, hgg, hnc, hcm, hcs, ht⟩
  · rw [hv] at hg; cases hg
  · rw [hv] at hg
    obtain rfl : g' = g := by simpa [Value.ownBlock] using hg
    refine .inr ⟨g', cap, _, hv, hb, blk_set hgg c u, hnc, hcm, by simpa using hcs, ?_⟩
    rw [← ht]
    simp [List.take_set]
theorem own_slice (h : W.ownsRow B e size v n xs) : ∃ a cap, v = .slice a n cap := by
  rcases h.2 with ⟨hv, h0⟩ | ⟨g', cap, cur, hv, _⟩
  · exact ⟨none, 0, by rw [hv, h0]⟩
  · exact ⟨_, _, hv⟩
/-- The slice v of n elements, each of them the cells m. -/
def ReadV (W : World) (v : Value) (n : Nat) (m : List Value) : Prop :=
  ∃ a cap, v = .slice a n cap ∧ ∀ k, k < n → ∃ g, a = some ⟨g, 0, none⟩ ∧ ∀ (j : Nat) (u : Value), m[j]? = some u → W.cell? ⟨g, k * m.length + j, none⟩ = some u
theorem ReadV.upd {S : Nat → Prop} {m : List Value} (h : ReadV W v n m) (u : Upd S W W') (hS : ∀ g, v.ownBlock = some g → ¬ S g) : ReadV W' v n m := by
  obtain ⟨a, cap, rfl, hk⟩ := h
  refine ⟨a, cap, rfl, fun k hkn => ?_⟩
  obtain ⟨g, rfl, hj⟩ := hk k hkn
  exact ⟨g, rfl, fun j v hv => by
    have := hj j v hv
    rw [← this]
    exact Upd.cell u (lt_of_cell this) (hS g rfl)⟩
theorem ReadV.ext {m : List Value} (h : ReadV W v n m) (u : Ext W W') : ReadV W' v n m := h.upd u (fun _ _ hk => hk)
theorem flat_rep (m : List Value) : ∀ (n k j : Nat), k < n → j < m.length → ((List.replicate n m).flatMap id)[k * m.length + j]? = m[j]? := by
  intro n
  induction n with
  | zero => intro k j h _; omega
  | succ n ih =>
    intro k j hk hj
    rw [List.replicate_succ, List.flatMap_cons, id]
    cases k with
    | zero => rw [Nat.zero_mul, Nat.zero_add, List.getElem?_append_left hj]
    | succ k => rw [List.getElem?_append_right (by rw [Nat.succ_mul]; omega), ← ih k j (by omega) hj]; congr 1; rw [Nat.succ_mul]; omega
/-- So many times the cells m. -/
def repL (n : Nat) (m : List Value) : List Value := (List.replicate n m).flatMap id
theorem repL_succ (n : Nat) (m : List Value) : repL (n + 1) m = repL n m ++ m := by unfold repL; rw [List.replicate_succ', List.flatMap_append]; simp
theorem repL_len (n : Nat) (m : List Value) : (repL n m).length = n * m.length := by
  induction n with
  | zero => simp [repL]
  | succ n ih => rw [repL_succ, List.length_append, ih, Nat.succ_mul]
theorem own_read {m : List Value} {k : Nat} {a : Option Addr} {cap capv : Nat} (h : W.ownsRow B e size (.slice a (n + k) cap) (n + k) (repL (n + k) m)) : ReadV W (.slice a n capv) n m := by
  refine ⟨a, capv, rfl, fun i hi => ?_⟩
  obtain ⟨g, cap', cl, hv, _, hg, hc⟩ := own_at h (by omega)
  simp only [Value.slice.injEq] at hv
  refine ⟨g, hv.1, fun j u hu => ?_⟩
  rw [cell_of_blk hg]
  refine hc _ u ?_
  unfold repL
  rw [flat_rep m _ _ _ (by omega) (List.getElem?_eq_some_iff.1 hu).1]
  exact hu
end
section
variable {P : Program}
/-- append_block, and: where the row lies anew, the elder memory stays. -/
theorem append_block2 (w : World) (base : Nat) (t ty e : TypeId) (i : TypeInfo) (z : Value) (ht : P.underlying t = some (.slice e)) (hi : P.info? e = some i) (hz : i.zero = some z)
    (v : Value) (n : Nat) (xs : List Value) (hown : w.ownsRow base e i.size v n xs)
    (a : Addr) (m c : Nat) (news : List Value) (hl : news.length = m * i.size) (hnews : ∀ j u, news[j]? = some u → w.cell? (a.add j) = some u) (h1 : ∀ u ∈ news, u.oneCell' = true)
    (h63 : n + m ≤ maxLen) (hbytes : (n + m) * i.bytes ≤ 140737488355328) (v' : Value) (w' : World)
    (hr : (Builtin.append_ #[t, t] ty #[v, .slice (some a) m c]).run P w = .ok v' w') : v'.ownBlock = v.ownBlock ∨ (v'.ownBlock = some w.heap.size ∧ Ext w w') := by
  have hsmall : n + m ≤ 9223372036854775807 := by simp only [maxLen] at h63; omega
  rcases hown.2 with ⟨rfl, rfl⟩ | ⟨g, cap, cur, rfl, hbg, hg, hnc, hcm, hcs, htake⟩
  · by_cases hm : m = 0
    · subst hm
      have e2 : (Builtin.append_ #[t, t] ty #[.slice none 0 0, .slice (some a) 0 c]).run P w = .ok (.slice none 0 0) w := by
        simp [Builtin.append_, run_underlying ht, sizeOf, typeInfo, hi, Builtin.lenOf, Builtin.firstCells, loadCells, loadCellsFrom]
      rw [e2] at hr
      cases hr
      exact .inl rfl
    · have e2 := run_append_nil (P := P) w t ty e i z ht hi hz a m c news hl hnews (by omega) (by omega) (by have hb := hbytes; simp only [Nat.zero_add] at hb; omega)
      rw [e2] at hr
      cases hr
      exact .inr ⟨rfl, ((Upd.refl none' w).drew).alloc _⟩
  · by_cases hroom : n + m ≤ cap
    · have hfit : n * i.size + news.length ≤ cur.size := by rw [hl, hcs, ← Nat.add_mul]; exact Nat.mul_le_mul_right _ hroom
      have e2 := run_append_room (P := P) w t ty e i ht hi g n cap cur hg a m c news hl hnews h1 hroom hfit
      rw [e2] at hr
      cases hr
      exact .inl rfl
    · have holds : ∀ j u, xs[j]? = some u → w.cell? ((⟨g, 0, none⟩ : Addr).add j) = some u := hown.cells (g := g) rfl
      have e2 := run_append_grow (P := P) w t ty e i z ht hi hz ⟨g, 0, none⟩ n cap xs hown.1 holds a m c news hl hnews (by omega) (by omega) (growslice_fits (by omega) hbytes)
      rw [e2] at hr
      cases hr
      exact .inr ⟨rfl, ((Upd.refl none' w).drew).alloc _⟩
theorem wpList_app2 {w : World} {ops : Array Oper} {rest : List Oper} {o : Oper} {a : Act} {Q : Exit → Act → World → Prop} (hgd : o.guard = none) (s x : Operand) (t : TypeId)
    (ho : o.op = .call { callee := .builtin .append, args := #[s, x], argTypes := #[t, t] })
    (base : Nat) (e : TypeId) (i : TypeInfo) (z : Value) (size bytes : Nat) (ht : P.underlying t = some (.slice e)) (hi : P.info? e = some i) (hz : i.zero = some z)
    (hsize : i.size = size) (hby : i.bytes = bytes) (hzs : z.cells.size = size) (hsz : 0 < size)
    (v : Value) (n : Nat) (xs : List Value) (hs : a.eval s = v) (hown : w.ownsRow base e size v n xs)
    (ad : Addr) (m c : Nat) (news : List Value) (hx : a.eval x = .slice (some ad) m c) (hl : news.length = m * size) (hnews : ∀ j u, news[j]? = some u → w.cell? (ad.add j) = some u) (h1 : ∀ u ∈ news, u.oneCell' = true)
    (h63 : n + m ≤ maxLen) (hbytes : (n + m) * bytes ≤ 140737488355328) (hbase : base ≤ w.heap.size)
    (h : ∀ v' w', w'.ownsRow base e size v' (n + m) (xs ++ news) → w.grownBy w' v.ownBlock → (v'.ownBlock = v.ownBlock ∨ (v'.ownBlock = some w.heap.size ∧ Ext w w')) → wpList P ops Q rest (a.put o.dst v') w') : wpList P ops Q (o :: rest) a w := by
  refine wpList_plain hgd fun K hK => ?_
  obtain ⟨v', w', hr, h2, h3, _⟩ := run_append_own (P := P) w base t o.type e i z size bytes ht hi hz hsize hby hzs hsz v n xs hown ad m c news hl hnews h1 h63 hbytes hbase
  subst hsize
  subst hby
  have h4 := append_block2 w base t o.type e i z ht hi hz v n xs hown ad m c news hl hnews h1 h63 hbytes v' w' hr
  unfold Oper.wp execOp
  simp only [ho, resolve, invoke, builtin, Sem.run_bind, Sem.run_pure, Result.andThen_ok, List.map_toArray, List.map_cons, List.map_nil, hs, hx, hr]
  exact hK _ _ (h v' w' h2 h3 h4)
end
/-- A list that a Book holds: the list, what grows out of it, its length, its number. -/
structure HeldD where
  v : Value
  long : Value
  n : Nat
  num : Nat
def heldL (h : HeldD) : List Value := [h.v, h.long, .int .i64 h.num]
def heldsL (L : List HeldD) : List Value := L.flatMap heldL
theorem heldsL_len (L : List HeldD) : (heldsL L).length = L.length * 3 := by
  unfold heldsL
  induction L with
  | nil => rfl
  | cons a t ih => rw [List.flatMap_cons, List.length_append, ih, List.length_cons]; show 3 + _ = _; omega
theorem heldsL_at : ∀ (L : List HeldD) (i j : Nat) (h : HeldD), L[i]? = some h → j < 3 → (heldsL L)[i * 3 + j]? = (heldL h)[j]? := by
  intro L
  induction L with
  | nil => intro i j h hi; simp at hi
  | cons a t ih =>
    intro i j h hi hj
    unfold heldsL at ih ⊢
    rw [List.flatMap_cons]
    cases i with
    | zero =>
      obtain rfl : a = h := by simpa using hi
      rw [Nat.zero_mul, Nat.zero_add, List.getElem?_append_left (by show j < 3; exact hj)]
    | succ i =>
      rw [List.getElem?_append_right (by show 3 ≤ _; omega)]
      rw [← ih i j h (by simpa using hi) hj]
      congr 1
      show _ - 3 = _
      omega
theorem heldsL_long : ∀ (L : List HeldD) (i : Nat) (h : HeldD) (lv : Value), L[i]? = some h → (heldsL L).set (i * 3 + 1) lv = heldsL (L.set i { h with long := lv }) := by
  intro L
  induction L with
  | nil => intro i h lv hi; simp at hi
  | cons a t ih =>
    intro i h lv hi
    unfold heldsL at ih ⊢
    cases i with
    | zero =>
      obtain rfl : a = h := by simpa using hi
      rfl
    | succ i =>
      rw [List.flatMap_cons, List.set_cons_succ, List.flatMap_cons, ← ih i h lv (by simpa using hi), List.set_append_right _ _ (by show 3 ≤ _; omega)]
      congr 2
      show _ - 3 = _
      omega
/-- The blocks of lists. -/
def listBs (L : List HeldD) (g : Nat) : Prop := ∃ (i : Nat) (h : HeldD), L[i]? = some h ∧ h.v.ownBlock = some g
theorem held_one (v long : Value) (m : Int) (h1 : v.oneCell' = true) (h2 : long.oneCell' = true) : ∀ u ∈ ([v, long, .int .i64 m] : List Value), u.oneCell' = true := fun u hu => by
  simp only [List.mem_cons, List.not_mem_nil, or_false] at hu
  rcases hu with rfl | rfl | rfl
  · exact h1
  · exact h2
  · rfl
theorem Tab10.upd {w w' : World} {S : Nat → Prop} (h : Tab10 w) (u : Upd S w w') (hS : ¬ S 18) : Tab10 w' := by
  have hg : Tryz.prog.globalNamed "internal/strconv.uint64pow10" = some 18 := by kernel_rfl
  unfold Tab10 Lib.TabIs World.var? at *
  simp only [hg, Option.bind_some] at h ⊢
  cases hb : w.heap[18]? with
  | none => simp [hb] at h
  | some o => rw [u.blk hb hS]; rw [hb] at h; exact h

theorem size_str1 : (Tryz.prog.info? 9).map (·.size) = some 1 := by kernel_rfl
theorem held_size : (Tryz.prog.info? 153).map (·.size) = some 3 := by kernel_rfl
theorem body_markText : hasBody Tryz.prog 110 = true := by kernel_rfl
theorem body_isText : hasBody Tryz.prog 117 = true := by kernel_rfl
section
variable {P : Program} {l : List Oper} {w0 : World} {se : Nat → Addr} {F : List (Value ⊕ EV)} {a0 : Act} {i : Nat} {o : Oper}
theorem ty_indexSlice1 {x ix : Operand} {t : TypeId} (g len cap k : Nat) (e : TypeId) (hg : Gd l se F a0 o) (ho : o.op = .indexAddr t x ix) (hF : F[i]? = some (.inl (.pointer (some ⟨g, k, none⟩)))) (hx : Kn l se F a0 o x (.slice (some ⟨g, 0, none⟩) len cap)) (hi : Kn l se F a0 o ix (.int .i64 k)) (hk : k < len)
    (hu : P.underlying t = some (.slice e)) (hs : (P.info? e).map (·.size) = some 1) : OpSpec P l w0 (Slots se F) a0 i o :=
  ty_indexSlice g 0 len cap k 1 e hg ho (by rw [hF, Nat.zero_add, Nat.mul_one]) hx hi hk hu hs
end
abbrev markT (num : Nat) : List Value := [.string (str (wordL num))]
theorem own_free {W : World} {B : Nat} {e : TypeId} {size : Nat} {v : Value} {n : Nat} {xs : List Value} (h : W.ownsRow B e size v n xs) {g : Nat} (hg : v.ownBlock = some g) (c : Nat) (hc : c < n * size) : W.frozen? ⟨g, c, none⟩ = false ∧ ∃ u, W.cell? ⟨g, c, none⟩ = some u := by
  rcases h.2 with ⟨hv, _⟩ | ⟨g', cap, cur, hv, hb, hgg, hnc, hcm, hcs, ht⟩
  · rw [hv] at hg; cases hg
  · rw [hv] at hg
    obtain rfl : g' = g := by simpa [Value.ownBlock] using hg
    refine ⟨free_of_blk hgg c, ?_⟩
    rw [cell_of_blk hgg]
    have : n * size ≤ cap * size := Nat.mul_le_mul_right _ hnc
    exact ⟨_, Array.getElem?_eq_getElem (by omega)⟩
/-- The texts that a Book holds. -/
structure HoldT (B : Nat) (W : World) (tv : Value) (L : List HeldD) (C : Nat → List Value) : Prop where
  row : W.ownsRow B 153 3 tv L.length (heldsL L)
  own : ∀ (i : Nat) h, L[i]? = some h → W.ownsRow B 9 1 h.v h.n (C i)
  sep : ∀ (i j : Nat) h h' g, L[i]? = some h → L[j]? = some h' → i ≠ j → h.v.ownBlock = some g → h'.v.ownBlock ≠ some g
section
variable {B : Nat} {W W' : World} {tv : Value} {L : List HeldD} {C : Nat → List Value}
theorem HoldT.upd {S : Nat → Prop} (h : HoldT B W tv L C) (u : Upd S W W') (hS : ∀ g, S g → ¬ listBs L g ∧ tv.ownBlock ≠ some g) : HoldT B W' tv L C :=
  ⟨ownsRow_upd h.row u (fun g hg hs => (hS g hs).2 hg), fun i hd hi => ownsRow_upd (h.own i hd hi) u (fun g hg hs => (hS g hs).1 ⟨i, hd, hi, hg⟩), h.sep⟩
theorem HoldT.ext (h : HoldT B W tv L C) (u : Ext W W') : HoldT B W' tv L C := h.upd u (fun _ hk => hk.elim)
theorem HoldT.apart (h : HoldT B W tv L C) {g : Nat} (hg : listBs L g) : tv.ownBlock ≠ some g := by
  obtain ⟨i, hd, hi, hg⟩ := hg
  exact own_apart (h.own i hd hi) h.row (by decide) hg
theorem HoldT.put (h : HoldT B W tv L C) {i g : Nat} {hd : HeldD} (hi : L[i]? = some hd) (hg : hd.v.ownBlock = some g) (k : Nat) (u : Value) : HoldT B (W.setCell ⟨g, k, none⟩ u) tv L (fun j => if j = i then (C i).set k u else C j) := by
  have U : Upd (one g) W (W.setCell ⟨g, k, none⟩ u) := (Upd.refl (one g) W).setCell (p := ⟨g, k, none⟩) (.inr rfl) u
  refine ⟨ownsRow_upd h.row U (fun g' hg' e => ?_), fun j hd' hj => ?_, h.sep⟩
  · obtain rfl : g' = g := e
    exact h.apart ⟨i, hd, hi, hg⟩ hg'
  · by_cases e : j = i
    · subst e
      rw [hi] at hj
      cases hj
      simp only [if_true]
      exact own_set (h.own _ _ hi) hg k u
    · simp only [if_neg e]
      refine ownsRow_upd (h.own j hd' hj) U (fun g' hg' e' => ?_)
      obtain rfl : g' = g := e'
      exact h.sep i j hd hd' g' hi hj (fun e2 => e e2.symm) hg hg'
end
theorem rep_set (k : Nat) (m d : Value) (D : List Value) : (repL k [m] ++ d :: D).set k m = repL (k + 1) [m] ++ D := by
  have hl : (repL k [m]).length = k := by rw [repL_len]; simp
  rw [List.set_append_right _ _ (by omega), hl, Nat.sub_self, List.set_cons_zero, repL_succ, List.append_assoc]
  rfl

set_option maxRecDepth 8000 in
set_option maxHeartbeats 4000000 in
theorem fillT_any {B b : Nat} {W : World} {tv : Value} {L : List HeldD} {C : Nat → List Value} (hb : W.cell? ⟨b, 3, none⟩ = some tv) (hbB : ¬ listBs L b) (H : HoldT B W tv L C) (T : Tab10 W) (hTB : ¬ listBs L 18)
    (hn : L.length ≤ 1000000) (hnn : ∀ (i : Nat) h, L[i]? = some h → h.n ≤ 1000000000 ∧ h.num ≤ 1000000000 ∧ h.long = .slice none 0 0) :
    Calls Tryz.prog 59 #[.pointer (some ⟨b, 0, none⟩)] W fun e W' => e = .returned (.tuple #[]) ∧ (∃ C', HoldT B W' tv L C' ∧ ∀ (i : Nat) h, L[i]? = some h → C' i = repL h.n (markT h.num)) ∧ Upd (listBs L) W W' := by
  obtain ⟨ta, tcap, rfl⟩ := own_slice H.row
  have HB := Lib.hid hb
  have HBB := Lib.hid hbB
  have HH0 := Lib.hid H
  have HT0 := Lib.hid T
  have HTB := Lib.hid hTB
  have HNN := Lib.hid hnn
  clear hbB H T hTB hnn
  go_enter Tryz.func59, Tryz.ntmps59
  go_wp2_with fail
  go_loopw [2] (fun iv wr => ∃ (i : Nat) (C : Nat → List Value), iv = .int .i64 i ∧ i ≤ L.length ∧ HoldT B wr (.slice ta L.length tcap) L C ∧ (∀ (j : Nat) h, j < i → L[j]? = some h → C j = repL h.n (markT h.num)) ∧ Upd (listBs L) W wr) (fun iv _ => L.length - (RowKit.intOf iv).toNat)
  case atStart => exact ⟨0, C, rfl, Nat.zero_le _, HH0.out, fun j h hj => by omega, Upd.refl _ _⟩
  case round =>
    obtain ⟨i, C, rfl, hi1, hh, hcj, hu⟩ := hrel
    have HH := Lib.hid hh
    have HCJ := Lib.hid hcj
    have HU := Lib.hid hu
    have cb : wr.cell? ⟨b, 3, none⟩ = some (.slice ta L.length tcap) := (Upd.cell hu (lt_of_cell HB.out) HBB.out).trans HB.out
    by_cases hlt : i < L.length
    · have hi := List.getElem?_eq_getElem hlt
      generalize L[i] = hd at hi
      obtain ⟨tg, tcap2, tcl, htv, _, htb, htc⟩ := own_at hh.row (by omega)
      simp only [Value.slice.injEq, true_and] at htv
      obtain ⟨rfl, rfl⟩ := htv
      have HROW := Lib.hid (fun (j : Nat) (u : Value) (hu : (heldL hd)[j]? = some u) => show wr.cell? ⟨tg, i * 3 + j, none⟩ = some u by
        rw [cell_of_blk htb]
        refine htc _ _ ?_
        rw [heldsL_at L i j hd hi (List.getElem?_eq_some_iff.1 hu).1]; exact hu)
      obtain ⟨va, vcap, hv⟩ := own_slice (hh.own i hd hi)
      obtain ⟨v, long, n, num⟩ := hd
      simp only at hv
      subst hv
      obtain ⟨hn1, hn2, hn3⟩ := HNN.out i _ hi
      simp only at hn1 hn2 hn3
      subst hn3
      have HNM := Lib.hid hn2
      have HI := Lib.hid hi
      have hlti : (i : Int) < L.length := by omega
      have hpb := blk_alloc wr (.cells #[.slice va n vcap, .slice none 0 0, .int .i64 num] 153)
      have HX1 := Lib.hid ((Upd.refl none' wr).alloc (.cells #[.slice va n vcap, .slice none 0 0, .int .i64 num] 153))
      have HPB0 := Lib.hid hpb
      clear hh hcj hu hi htb htc hpb hn2
      go_wp2_with (refine wpList_loadAgg rfl 153 _ rfl tg (i * 3) (by go_simp; all_goals exact rfl) [.slice va n vcap, .slice none 0 0, .int .i64 num] Tryz.underlying153 rfl held_size HROW.out ?_)
      generalize hhb : wr.heap.size = hb at *
      go_loopw [4] (fun iv wr => ∃ (k : Nat) (C : Nat → List Value) (D : List Value), iv = .int .i64 k ∧ k ≤ n ∧ HoldT B wr (.slice (some ⟨tg, 0, none⟩) L.length tcap) L C ∧ C i = repL k (markT num) ++ D ∧ (∀ (j : Nat) h, j < i → L[j]? = some h → C j = repL h.n (markT h.num)) ∧ Upd (listBs L) W wr ∧ wr.heap[hb]? = some (.cells #[.slice va n vcap, .slice none 0 0, .int .i64 num] 153 (0, 0))) (fun iv _ => n - (RowKit.intOf iv).toNat)
      case atStart => exact ⟨0, C, C i, rfl, Nat.zero_le _, HH.out.ext HX1.out, rfl, HCJ.out, HU.out.thenExt HX1.out, HPB0.out⟩
      case round =>
        obtain ⟨k, C, D, rfl, hk1, hh, hci, hcj, hu, hpb⟩ := hrel
        have HH := Lib.hid hh
        have HCI := Lib.hid hci
        have HCJ := Lib.hid hcj
        have HU := Lib.hid hu
        have HPB := Lib.hid hpb
        have c0 := cell_of_blk hpb 0
        have hlen := (hh.own i _ HI.out).1
        rw [hci, List.length_append, repL_len] at hlen
        simp only [List.length_cons, List.length_nil, Nat.zero_add, Nat.mul_one] at hlen
        by_cases hkn : k < n
        · obtain ⟨g, vcap2, vcl, hvv, _, hgb, _⟩ := own_at (hh.own i _ HI.out) (by show 0 < n; omega)
          simp only [Value.slice.injEq, true_and] at hvv
          obtain ⟨rfl, rfl⟩ := hvv
          have HG : Hid ((HeldD.mk (.slice (some ⟨g, 0, none⟩) n vcap) (.slice none 0 0) n num).v.ownBlock = some g) := Lib.hid rfl
          have HC0 := Lib.hid (fun (w1 : World) (hX : Ext wr w1) => show w1.cell? ⟨hb, 0, none⟩ = some (.slice (some ⟨g, 0, none⟩) n vcap) from cell_of_blk (Ext.blk hX HPB.out) 0)
          have HC2 := Lib.hid (fun (w1 : World) (hX : Ext wr w1) => show w1.cell? ⟨hb, 2, none⟩ = some (.int .i64 num) from cell_of_blk (Ext.blk hX HPB.out) 2)
          have HT := Lib.hid (HT0.out.upd hu HTB.out)
          have HKN := Lib.hid hkn
          have HFR := Lib.hid (fun (w1 : World) (hX : Ext wr w1) => own_free (ownsRow_upd (hh.own i _ HI.out) hX (fun _ _ h => h)) HG.out k (by show k < n * 1; omega))
          have HNEB := Lib.hid (show hb ≠ g from fun e => by
            rw [e, hgb] at hpb
            simp only [Option.some.injEq, Obj.cells.injEq] at hpb
            exact absurd hpb.2.1 (by decide))
          obtain ⟨d, D', rfl⟩ : ∃ d D', D = d :: D' := by
            cases D with
            | nil => simp at hlen; omega
            | cons d D' => exact ⟨d, D', rfl⟩
          obtain ⟨C2, hC2⟩ : ∃ C2 : Nat → List Value, C2 = (fun j => if j = i then (C i).set k (.string (str (wordL num))) else C j) := ⟨_, rfl⟩
          have HCE := Lib.hid hC2
          have HCI2 := Lib.hid (show C2 i = repL (k + 1) (markT num) ++ D' by
            rw [hC2]; show (if i = i then _ else _) = _; rw [if_pos rfl, hci]; exact rep_set k _ d D')
          have HCJ2 := Lib.hid (show ∀ (j : Nat) h, j < i → L[j]? = some h → C2 j = repL h.n (markT h.num) by
            intro j h hj hjh
            rw [hC2]; show (if j = i then _ else _) = _; rw [if_neg (show ¬ j = i by omega)]; exact hcj j h hj hjh)
          clear hC2
          have hki : (k : Int) < n := by omega
          clear hh hci hcj hu hpb hgb hlen
          go_wp2_with fail
          refine region_tail 7 (fun _ => ⟨0, 0, none⟩) [.inl (.pointer (some ⟨hb, 0, none⟩)), .inl (.slice (some ⟨g, 0, none⟩) n vcap), .inl (.int .i64 (k : Int)), .inl (.pointer (some ⟨hb, 2, none⟩)), .inl (.int .i64 num), .inl (.string (str (wordL num))), .inl (.pointer (some ⟨g, k, none⟩))] (by kernel_rfl) (by kernel_rfl) (by rfl) (by rfl) (by rfl) (by rfl) ?_ ?_
          rotate_left
          · intro v w' X hv
            have h33 := slot_val (hv 5 _ 33 rfl rfl) rfl
            have h34 := slot_val (hv 6 _ 34 rfl rfl) rfl
            have HH2 := Lib.hid (HH.out.ext X)
            have HU2 := Lib.hid (HU.out.thenExt X)
            have HF := Lib.hid (HFR.out w' X)
            have HPX := Lib.hid (Ext.blk X HPB.out)
            have HP2 := Lib.hid (show HoldT B (w'.setCell ⟨g, k, none⟩ (.string (str (wordL num)))) (.slice (some ⟨tg, 0, none⟩) L.length tcap) L C2 by rw [HCE.out]; exact HH2.out.put HI.out HG.out k _)
            have HUP := Lib.hid (HU2.out.setCell (p := ⟨g, k, none⟩) (.inr ⟨i, _, HI.out, HG.out⟩) (.string (str (wordL num))))
            have HBK2 := Lib.hid (blk_set_ne HPX.out (p := ⟨g, k, none⟩) HNEB.out (.string (str (wordL num))))
            clear X hv
            refine any_norm (by simp only [List.take, putAll]; rewrite [h33, h34]; go_simp; all_goals exact rfl) ?_
            clear h33 h34
            refine any1 7 (by kernel_rfl) ?_
            obtain ⟨c0, hc0⟩ := HF.out.2
            refine op_store1 rfl (by rfl) 9 _ _ rfl ⟨g, k, none⟩ rfl (.string (str (wordL num))) rfl rfl rfl size_str1 c0 hc0 HF.out.1 ?_
            clear hc0
            refine any_norm (by go_simp; all_goals exact rfl) ?_
            refine wpAny_done (by kernel_rfl) ?_ _
            go_wp2_with fail
            exact ⟨⟨k + 1, _, D', by simp, by omega, HP2.out, HCI2.out, HCJ2.out, HUP.out, HBK2.out⟩, by simp [RowKit.intOf]; omega⟩
          refine ⟨ty_fieldAddr _ _ (gd_none rfl) rfl rfl (kn_old 3 rfl rfl) (fun w1 => by kernel_rfl), ?_⟩
          refine ⟨ty_load1 ⟨hb, 0, none⟩ _ (gd_none rfl) rfl rfl (kn_new 0 rfl rfl rfl rfl) Tryz.underlying25 rfl (fun w1 hX => HC0.out w1 hX), ?_⟩
          refine ⟨ty_move (gd_none rfl) rfl rfl (kn_old 4 rfl rfl), ?_⟩
          refine ⟨ty_fieldAddr _ _ (gd_none rfl) rfl rfl (kn_old 3 rfl rfl) (fun w1 => by kernel_rfl), ?_⟩
          refine ⟨ty_load1 ⟨hb, 2, none⟩ _ (gd_none rfl) rfl rfl (kn_new 3 rfl rfl rfl rfl) Tryz.underlying3 rfl (fun w1 hX => HC2.out w1 hX), ?_⟩
          refine ⟨ty_call1 110 _ _ _ (gd_none rfl) rfl body_markText (kn_new 4 rfl rfl rfl rfl) (fun w1 hX => known_call rfl (markText_any num HNM.out (HT.out.ext hX))), ?_⟩
          refine ⟨ty_indexSlice1 g _ _ k _ (gd_none rfl) rfl rfl (kn_new 1 rfl rfl rfl rfl) (kn_new 2 rfl rfl rfl rfl) HKN.out Tryz.underlying25 size_str1, ?_⟩
          exact trivial
        · obtain rfl : k = n := by omega
          have hD : D = [] := List.length_eq_zero_iff.1 (by omega)
          subst hD
          have HCF := Lib.hid (show ∀ (j : Nat) h, j < i + 1 → L[j]? = some h → C j = repL h.n (markT h.num) by
            intro j h hj hjh
            by_cases e : j = i
            · subst e
              rw [HI.out] at hjh
              cases hjh
              rw [hci, List.append_nil]
            · exact hcj j h (by omega) hjh)
          clear hh hci hcj hu hpb hlen
          go_wp2_with fail
          exact ⟨⟨i + 1, C, by simp, by omega, HH.out, HCF.out, HU.out⟩, by simp [RowKit.intOf]; omega⟩
    · obtain rfl : i = L.length := by omega
      have HFIN := Lib.hid (show ∀ (j : Nat) h, L[j]? = some h → C j = repL h.n (markT h.num) from fun j h hj => hcj j h (List.getElem?_eq_some_iff.1 hj).1 hj)
      clear hh hcj hu
      go_wp2_with fail
      go_end0
      exact ⟨rfl, ⟨C, HH.out, HFIN.out⟩, HU.out⟩

/-- Behind the first i lists more has been put. -/
structure GrowT (B : Nat) (W : World) (tv : Value) (L L' : List HeldD) (i : Nat) : Prop where
  len : L'.length = L.length
  same : ∀ (j : Nat) h, L[j]? = some h → ∃ h', L'[j]? = some h' ∧ h'.v = h.v ∧ h'.n = h.n ∧ h'.num = h.num
  row : W.ownsRow B 153 3 tv L'.length (heldsL L')
  done : ∀ (j : Nat) h, j < i → L'[j]? = some h → W.ownsRow B 9 1 h.long (h.n + 70) (repL (h.n + 70) (markT h.num)) ∧ ReadV W h.v h.n (markT h.num)
  rest : ∀ (j : Nat) h, i ≤ j → L'[j]? = some h → h.long = .slice none 0 0 ∧ W.ownsRow B 9 1 h.v h.n (repL h.n (markT h.num))
  sepv : ∀ (j k : Nat) h h' g, L'[j]? = some h → L'[k]? = some h' → j ≠ k → h.v.ownBlock = some g → h'.v.ownBlock ≠ some g
  sepl : ∀ (j k : Nat) h h' g, j < i → L'[j]? = some h → L'[k]? = some h' → j ≠ k → h.long.ownBlock = some g → h'.v.ownBlock ≠ some g ∧ (k < i → h'.long.ownBlock ≠ some g)
  rsep : ∀ (j : Nat) h g, L'[j]? = some h → h.v.ownBlock = some g → tv.ownBlock ≠ some g ∧ g < W.heap.size
section
variable {B : Nat} {W W2 : World} {tv : Value} {L L' : List HeldD} {i : Nat}
theorem GrowT.ext (h : GrowT B W tv L L' i) (u : Ext W W2) : GrowT B W2 tv L L' i :=
  ⟨h.len, h.same, ownsRow_upd h.row u (fun _ _ k => k), fun j hd hj hjd => ⟨ownsRow_upd (h.done j hd hj hjd).1 u (fun _ _ k => k), (h.done j hd hj hjd).2.ext u⟩, fun j hd hj hjd => ⟨(h.rest j hd hj hjd).1, ownsRow_upd (h.rest j hd hj hjd).2 u (fun _ _ k => k)⟩, h.sepv, h.sepl, fun j hd g hj hg => ⟨(h.rsep j hd g hj hg).1, Nat.lt_of_lt_of_le (h.rsep j hd g hj hg).2 u.size⟩⟩
theorem GrowT.start {C : Nat → List Value} (h : HoldT B W tv L C) (hc : ∀ (i : Nat) h, L[i]? = some h → C i = repL h.n (markT h.num)) (hl : ∀ (i : Nat) h, L[i]? = some h → h.long = .slice none 0 0) : GrowT B W tv L L 0 :=
  ⟨rfl, fun j hd hj => ⟨hd, hj, rfl, rfl, rfl⟩, h.row, fun j hd hj => by omega, fun j hd _ hj => ⟨hl j hd hj, by rw [← hc j hd hj]; exact h.own j hd hj⟩, h.sep, fun j k hd hd' g hj => by omega, fun j hd g hj hg => ⟨h.apart ⟨j, hd, hj, hg⟩, by obtain ⟨cl, hb⟩ := own_ty (h.own j hd hj) hg; exact lt_of_blk hb⟩⟩
theorem GrowT.step (h : GrowT B W tv L L' i) {v lv : Value} {n num : Nat} (hi : L'[i]? = some ⟨v, .slice none 0 0, n, num⟩) (u : Upd (fun g => v.ownBlock = some g) W W2) (ho : W2.ownsRow B 9 1 lv (n + 70) (repL (n + 70) (markT num)))
    (hl : lv.ownBlock = v.ownBlock ∨ ∃ g, lv.ownBlock = some g ∧ W.heap.size ≤ g) (hr : ReadV W2 v n (markT num)) {tg : Nat} (ht : tv.ownBlock = some tg) : GrowT B (W2.setCell ⟨tg, i * 3 + 1, none⟩ lv) tv L (L'.set i ⟨v, lv, n, num⟩) (i + 1) := by
  have hil : i < L'.length := (List.getElem?_eq_some_iff.1 hi).1
  have U3 : Upd (one tg) W2 (W2.setCell ⟨tg, i * 3 + 1, none⟩ lv) := (Upd.refl (one tg) W2).setCell (p := ⟨tg, i * 3 + 1, none⟩) (.inr rfl) lv
  have vrow := (h.rest i _ (Nat.le_refl _) hi).2
  have hvt : ∀ g, v.ownBlock = some g → tg ≠ g := fun g hg e => (h.rsep i _ g hi hg).1 (e ▸ ht)
  have row2 : W2.ownsRow B 153 3 tv L'.length (heldsL L') := ownsRow_upd h.row u (fun g hg hs => (h.rsep i _ g hi hs).1 hg)
  have get : ∀ (j : Nat) hd, (L'.set i ⟨v, lv, n, num⟩)[j]? = some hd → (j = i ∧ hd = ⟨v, lv, n, num⟩) ∨ (j ≠ i ∧ L'[j]? = some hd) := fun j hd hj => by
    rw [List.getElem?_set] at hj
    split at hj
    · rename_i e
      exact .inl ⟨e.symm, (Option.some.inj hj).symm⟩
    · rename_i e
      exact .inr ⟨fun e2 => e e2.symm, hj⟩
  have lt2 : ∀ {m : Nat} {x : Value} {xs : List Value} {Bx : Nat} {g : Nat}, W.ownsRow Bx 9 1 x m xs → x.ownBlock = some g → g < W.heap.size := fun hx hg => by
    obtain ⟨cl, hb⟩ := own_ty hx hg; exact lt_of_blk hb
  refine ⟨by rw [List.length_set]; exact h.len, fun j hd hj => ?_, ?_, fun j hd hj hjd => ?_, fun j hd hj hjd => ?_, fun j k hd hd' g hj hk hne hg => ?_, fun j k hd hd' g hji hj hk hne hg => ?_, fun j hd g hj hg => ?_⟩
  · obtain ⟨h', e1, e2, e3, e4⟩ := h.same j hd hj
    by_cases e : j = i
    · subst e
      rw [hi] at e1
      cases e1
      exact ⟨⟨v, lv, n, num⟩, by rw [List.getElem?_set_self hil], e2, e3, e4⟩
    · exact ⟨h', by rw [List.getElem?_set_ne (fun e5 => e e5.symm)]; exact e1, e2, e3, e4⟩
  · have := own_set row2 ht (i * 3 + 1) lv
    rw [heldsL_long L' i _ lv hi] at this
    rw [List.length_set]
    exact this
  · rcases get j hd hjd with ⟨e, rfl⟩ | ⟨e, hjd⟩
    · refine ⟨ownsRow_upd ho U3 (fun g hg e2 => ?_), hr.upd U3 (fun g hg e2 => hvt g hg e2.symm)⟩
      obtain rfl : g = tg := e2
      exact own_apart ho row2 (by decide) hg ht
    · obtain ⟨d1, d2⟩ := h.done j hd (by omega) hjd
      have d1' := ownsRow_upd d1 u (fun g hg hs => (h.sepl j i hd _ g (by omega) hjd hi e hg).1 hs)
      refine ⟨ownsRow_upd d1' U3 (fun g hg e2 => ?_), (d2.upd u (fun g hg hs => h.sepv j i hd _ g hjd hi e hg hs)).upd U3 (fun g hg e2 => ?_)⟩
      · obtain rfl : g = tg := e2
        exact own_apart d1' row2 (by decide) hg ht
      · obtain rfl : g = tg := e2
        exact (h.rsep j hd g hjd hg).1 ht
  · rcases get j hd hjd with ⟨e, rfl⟩ | ⟨e, hjd⟩
    · omega
    · obtain ⟨d1, d2⟩ := h.rest j hd (by omega) hjd
      refine ⟨d1, ownsRow_upd (ownsRow_upd d2 u (fun g hg hs => h.sepv j i hd _ g hjd hi e hg hs)) U3 (fun g hg e2 => ?_)⟩
      obtain rfl : g = tg := e2
      exact (h.rsep j hd g hjd hg).1 ht
  · rcases get j hd hj with ⟨e, rfl⟩ | ⟨e, hj⟩ <;> rcases get k hd' hk with ⟨e', rfl⟩ | ⟨e', hk⟩
    · omega
    · exact h.sepv i k _ hd' g hi hk (fun e3 => e' e3.symm) hg
    · exact h.sepv j i hd ⟨v, .slice none 0 0, n, num⟩ g hj hi e hg
    · exact h.sepv j k hd hd' g hj hk hne hg
  · rcases get j hd hj with ⟨e, rfl⟩ | ⟨e, hj⟩ <;> rcases get k hd' hk with ⟨e', rfl⟩ | ⟨e', hk⟩
    · omega
    · rcases hl with hl | ⟨g', hg', hge⟩
      · have hvg : v.ownBlock = some g := by rw [← hl]; exact hg
        exact ⟨h.sepv i k _ hd' g hi hk (fun e3 => e' e3.symm) hvg, fun hk2 hg2 => (h.sepl k i hd' _ g (by omega) hk hi e' hg2).1 hvg⟩
      · have hgg : g' = g := Option.some.inj (hg'.symm.trans hg)
        subst hgg
        refine ⟨fun hg2 => ?_, fun hk2 hg2 => ?_⟩
        · have := (h.rsep k hd' g' hk hg2).2; omega
        · have := lt2 (h.done k hd' (by omega) hk).1 hg2; omega
    · have hji2 : j < i := by omega
      refine ⟨(h.sepl j i hd _ g hji2 hj hi e hg).1, fun _ hg2 => ?_⟩
      rcases hl with hl | ⟨g', hg', hge⟩
      · exact (h.sepl j i hd _ g hji2 hj hi e hg).1 (by show v.ownBlock = some g; rw [← hl]; exact hg2)
      · have hgg : g' = g := Option.some.inj (hg'.symm.trans hg2)
        subst hgg
        have := lt2 (h.done j hd hji2 hj).1 hg; omega
    · exact ⟨(h.sepl j k hd hd' g (by omega) hj hk hne hg).1, fun hk2 => (h.sepl j k hd hd' g (by omega) hj hk hne hg).2 (by omega)⟩
  · have hsz : W.heap.size ≤ (W2.setCell ⟨tg, i * 3 + 1, none⟩ lv).heap.size := Nat.le_trans u.size U3.size
    rcases get j hd hj with ⟨e, rfl⟩ | ⟨e, hj⟩
    · exact ⟨(h.rsep i _ g hi hg).1, Nat.lt_of_lt_of_le (h.rsep i _ g hi hg).2 hsz⟩
    · exact ⟨(h.rsep j hd g hj hg).1, Nat.lt_of_lt_of_le (h.rsep j hd g hj hg).2 hsz⟩
end
/-- A row of one cell. -/
theorem wpList_build1 {P : Program} {w : World} {ops : Array Oper} {rest : List Oper} {o : Oper} {a : Act} {Q : Exit → Act → World → Prop} (hg : o.guard = none) (t e : TypeId) (y : Operand) (ho : o.op = .buildSlice t 1 #[(0, y)])
    (v : Value) (hy : a.eval y = v) (hu : P.underlying t = some (.slice e)) (ie : TypeInfo) (z : Value) (hie : P.info? e = some ie) (hz : ie.zero = some z) (hs : ie.size = 1) (hv : v.cells = #[v])
    (h : wpList P ops Q rest (a.put o.dst (.slice (some ⟨w.heap.size, 0, none⟩) 1 1)) (w.alloc (.cells #[v] e))) : wpList P ops Q (o :: rest) a w := by
  refine wpList_buildSlice hg t e 1 _ ho #[v] ie z hu hie hz (by rw [hs]; omega) (by rw [hs]; omega) ?_ h
  simp only [List.map_toArray, List.map_cons, List.map_nil, hy, Instr.fill, hs, Nat.zero_mul, Nat.one_mul, hv]
  rw [if_neg (by simp)]
  have := fold_all [v] ((Array.range 1).map (z.cells[· % z.cells.size]!)) (by simp)
  simpa using this
/-- What the inner loop keeps: a longer list out of v. -/
structure LongT (B : Nat) (W0 W : World) (v lv : Value) (n num k : Nat) : Prop where
  own : W.ownsRow B 9 1 lv (n + k) (repL (n + k) (markT num))
  blk : lv.ownBlock = v.ownBlock ∨ ∃ g, lv.ownBlock = some g ∧ W0.heap.size ≤ g
  upd : Upd (fun g => v.ownBlock = some g) W0 W
  read : ReadV W v n (markT num)
  vlt : ∀ g, v.ownBlock = some g → g < W0.heap.size
theorem LongT.ext {B : Nat} {W0 W W2 : World} {v lv : Value} {n num k : Nat} (h : LongT B W0 W v lv n num k) (u : Ext W W2) : LongT B W0 W2 v lv n num k :=
  ⟨ownsRow_upd h.own u (fun _ _ e => e), h.blk, h.upd.thenExt u, h.read.ext u, h.vlt⟩
theorem own_addr {W : World} {B : Nat} {e : TypeId} {size : Nat} {v : Value} {n : Nat} {xs : List Value} (h : W.ownsRow B e size v n xs) {g : Nat} (hg : v.ownBlock = some g) : ∃ cap, v = .slice (some ⟨g, 0, none⟩) n cap := by
  rcases h.2 with ⟨hv, _⟩ | ⟨g', cap, cur, hv, _⟩
  · rw [hv] at hg; cases hg
  · rw [hv] at hg
    obtain rfl : g' = g := by simpa [Value.ownBlock] using hg
    exact ⟨cap, hv⟩
theorem LongT.app {B : Nat} {W0 W W2 : World} {v lv lv2 : Value} {n num k : Nat} (h : LongT B W0 W v lv n num k) (ho : W2.ownsRow B 9 1 lv2 (n + k + 1) (repL (n + k) (markT num) ++ markT num)) (hg : W.grownBy W2 lv.ownBlock)
    (hb : lv2.ownBlock = lv.ownBlock ∨ (lv2.ownBlock = some W.heap.size ∧ Ext W W2)) : LongT B W0 W2 v lv2 n num (k + 1) := by
  have ho2 : W2.ownsRow B 9 1 lv2 (n + (k + 1)) (repL (n + (k + 1)) (markT num)) := by
    rw [← Nat.add_assoc, repL_succ]; exact ho
  refine ⟨ho2, ?_, ?_, ?_, h.vlt⟩
  · rcases hb with e | ⟨e, _⟩
    · rw [e]; exact h.blk
    · exact .inr ⟨_, e, h.upd.size⟩
  · refine h.upd.grown hg (fun g hg2 => ?_)
    rcases h.blk with e | ⟨g', e, hge⟩
    · exact .inr (by rw [← e]; exact hg2)
    · rw [e] at hg2; cases hg2; exact .inl hge
  · rcases hb with e | ⟨_, u⟩
    · rcases h.blk with e2 | ⟨g', e2, hge⟩
      · obtain ⟨a, capv, rfl, hk⟩ := h.read
        by_cases hn : n = 0
        · subst hn; exact ⟨a, capv, rfl, fun k hk => by omega⟩
        · obtain ⟨g, ha, _⟩ := hk 0 (by omega)
          subst ha
          have e3 : lv2.ownBlock = some g := by rw [e, e2]; rfl
          obtain ⟨cap2, hv2⟩ := own_addr ho2 e3
          subst hv2
          exact own_read ho2
      · refine h.read.upd (S := fun g => lv.ownBlock = some g) ((Upd.refl _ W).grown hg (fun g hg2 => .inr hg2)) (fun g hg2 hs => ?_)
        have := h.vlt g hg2
        rw [e2] at hs; cases hs; omega
    · exact h.read.ext u

set_option maxRecDepth 8000 in
set_option maxHeartbeats 4000000 in
theorem growT_any {B b : Nat} {W : World} {tv : Value} {L : List HeldD} (hb : W.cell? ⟨b, 3, none⟩ = some tv) (hbB : ¬ listBs L b) (hbt : tv.ownBlock ≠ some b) (H : GrowT B W tv L L 0) (T : Tab10 W) (hTB : ¬ listBs L 18) (hTt : tv.ownBlock ≠ some 18)
    (hB : B ≤ W.heap.size) (hn : L.length ≤ 1000000) (hnn : ∀ (i : Nat) h, L[i]? = some h → h.n ≤ 1000000000 ∧ h.num ≤ 1000000000) :
    Calls Tryz.prog 75 #[.pointer (some ⟨b, 0, none⟩)] W fun e W' => e = .returned (.tuple #[]) ∧ (∃ L', GrowT B W' tv L L' L.length) ∧ Upd (fun g => listBs L g ∨ tv.ownBlock = some g) W W' := by
  obtain ⟨j0, hj0, hjz0, hjz1, hjz2⟩ := info_parts info_string
  obtain ⟨ta, tcap, rfl⟩ := own_slice H.row
  have HB := Lib.hid hb
  have HBB := Lib.hid (show ¬ (listBs L b ∨ (Value.slice ta L.length tcap).ownBlock = some b) from fun h => h.elim hbB hbt)
  have HH0 := Lib.hid H
  have HT0 := Lib.hid T
  have HTB := Lib.hid (show ¬ (listBs L 18 ∨ (Value.slice ta L.length tcap).ownBlock = some 18) from fun h => h.elim hTB hTt)
  have HNN := Lib.hid hnn
  have HB00 := Lib.hid hB
  clear hbB hbt H T hTB hTt hnn hB
  go_enter Tryz.func75, Tryz.ntmps75
  go_wp2_with fail
  go_loopw [2] (fun iv wr => ∃ (i : Nat) (L' : List HeldD), iv = .int .i64 i ∧ i ≤ L.length ∧ GrowT B wr (.slice ta L.length tcap) L L' i ∧ Upd (fun g => listBs L g ∨ (Value.slice ta L.length tcap).ownBlock = some g) W wr) (fun iv _ => L.length - (RowKit.intOf iv).toNat)
  case atStart => exact ⟨0, L, rfl, Nat.zero_le _, HH0.out, Upd.refl _ _⟩
  case round =>
    obtain ⟨i, L', rfl, hi1, hh, hu⟩ := hrel
    have HH := Lib.hid hh
    have HU := Lib.hid hu
    have cb : wr.cell? ⟨b, 3, none⟩ = some (.slice ta L.length tcap) := (Upd.cell hu (lt_of_cell HB.out) HBB.out).trans HB.out
    by_cases hlt : i < L.length
    · have hil' : i < L'.length := by rw [hh.len]; exact hlt
      have hi := List.getElem?_eq_getElem hil'
      generalize L'[i] = hd at hi
      obtain ⟨tg, tcap2, tcl, htv, _, htb, htc⟩ := own_at hh.row (by omega)
      rw [hh.len] at htv
      simp only [Value.slice.injEq, true_and] at htv
      obtain ⟨rfl, rfl⟩ := htv
      have HROW := Lib.hid (fun (j : Nat) (u : Value) (hu : (heldL hd)[j]? = some u) => show wr.cell? ⟨tg, i * 3 + j, none⟩ = some u by
        rw [cell_of_blk htb]
        refine htc _ _ ?_
        rw [heldsL_at L' i j hd hi (List.getElem?_eq_some_iff.1 hu).1]; exact hu)
      obtain ⟨hr1, hr2⟩ := hh.rest i hd (Nat.le_refl _) hi
      obtain ⟨va, vcap, hv⟩ := own_slice hr2
      obtain ⟨h0, hL0⟩ : ∃ h0, L[i]? = some h0 := ⟨_, List.getElem?_eq_getElem hlt⟩
      obtain ⟨h', e1, e2, e3, e4⟩ := hh.same i h0 hL0
      rw [hi] at e1
      cases e1
      obtain ⟨hn1, hn2⟩ := HNN.out i _ hL0
      rw [← e3] at hn1
      rw [← e4] at hn2
      have HLB := Lib.hid (show ∀ g, hd.v.ownBlock = some g → listBs L g from fun g hg => ⟨i, h0, hL0, by rw [← e2]; exact hg⟩)
      obtain ⟨v, long, n, num⟩ := hd
      simp only at hv hr1 hr2 hn1 hn2
      subst hv
      subst hr1
      have HNM := Lib.hid hn2
      have HI := Lib.hid hi
      have hlti : (i : Int) < L.length := by omega
      have hpb := blk_alloc wr (.cells #[.slice va n vcap, .slice none 0 0, .int .i64 num] 153)
      have HX1 := Lib.hid ((Upd.refl none' wr).alloc (.cells #[.slice va n vcap, .slice none 0 0, .int .i64 num] 153))
      have HPB0 := Lib.hid hpb
      have HRD := Lib.hid (show ReadV wr (.slice va n vcap) n (markT num) by
        refine ⟨va, vcap, rfl, fun k hk => ?_⟩
        obtain ⟨g, cap', cl, hv2, _, hg2, hc2⟩ := own_at hr2 (by show 0 < n; omega)
        simp only [Value.slice.injEq] at hv2
        refine ⟨g, hv2.1, fun j u hu => ?_⟩
        rw [cell_of_blk hg2]
        refine hc2 _ u ?_
        unfold repL
        rw [flat_rep _ _ _ _ hk (List.getElem?_eq_some_iff.1 hu).1]
        exact hu)
      have HVL := Lib.hid (show ∀ g, (Value.slice va n vcap).ownBlock = some g → g < wr.heap.size ∧ tg ≠ g from fun g hg => ⟨(hh.rsep i _ g hi hg).2, fun e => (hh.rsep i _ g hi hg).1 (by rw [← e]; rfl)⟩)
      have HLG := Lib.hid (LongT.mk (B := B) (W0 := wr.alloc (.cells #[.slice va n vcap, .slice none 0 0, .int .i64 num] 153)) (W := wr.alloc (.cells #[.slice va n vcap, .slice none 0 0, .int .i64 num] 153)) (v := .slice va n vcap) (lv := .slice va n vcap) (n := n) (num := num) (k := 0) (ownsRow_upd hr2 HX1.out (fun _ _ e => e)) (.inl rfl) (Upd.refl _ _) (HRD.out.ext HX1.out) (fun g hg => by have := (HVL.out g hg).1; rw [World.size_alloc]; omega))
      have HTBW := Lib.hid (HT0.out.upd hu HTB.out)
      have HBW := Lib.hid (Nat.le_trans HB00.out hu.size)
      have HTGI := Lib.hid htb
      have HTGC := Lib.hid (show i * 3 + 1 < tcl.size from (List.getElem?_eq_some_iff.1 (by
        have := htc (i * 3 + 1) (.slice none 0 0) (by rw [heldsL_at L' i 1 _ hi (by omega)]; rfl)
        rw [← Array.getElem?_toList] at this; exact this)).1)
      clear hh hu hi htb htc hpb hn2 hr2 hil' e2 e3 e4 hL0
      go_wp2_with (refine wpList_loadAgg rfl 153 _ rfl tg (i * 3) (by go_simp; all_goals exact rfl) [.slice va n vcap, .slice none 0 0, .int .i64 num] Tryz.underlying153 rfl held_size HROW.out ?_)
      have HT1 := Lib.hid (HTBW.out.ext HX1.out)
      have HG1 := Lib.hid (HH.out.ext HX1.out)
      have HU1 := Lib.hid (HU.out.thenExt HX1.out)
      have HTG1 := Lib.hid (Ext.blk HX1.out HTGI.out)
      have HBW1 := Lib.hid (Nat.le_trans HBW.out HX1.out.size)
      clear HTBW HBW HTGI HRD HX1 HH HU cb HROW
      generalize hhb : wr.heap.size = hb at *
      generalize hW1 : wr.alloc (.cells #[.slice va n vcap, .slice none 0 0, .int .i64 num] 153) = W1 at *
      go_loopw [4, 5] (fun lv kv wr2 => ∃ (k : Nat), kv = .int .i64 k ∧ k ≤ 70 ∧ LongT B W1 wr2 (.slice va n vcap) lv n num k) (fun _ kv _ => 70 - (RowKit.intOf kv).toNat)
      case atStart => exact ⟨0, rfl, Nat.zero_le _, HLG.out⟩
      case round =>
        obtain ⟨k, rfl, hk1, hl⟩ := hrel
        have HL := Lib.hid hl
        have hpb2 := hl.upd.blk HPB0.out (fun hs => by have := (HVL.out _ hs).1; omega)
        have c2 := cell_of_blk hpb2 2
        simp only [List.size_toArray, List.getElem?_toArray, List.getElem?_cons_zero, List.getElem?_cons_succ] at c2
        have HT2 := Lib.hid (HT1.out.upd hl.upd (fun hs => HTB.out (.inl (HLB.out _ hs))))
        by_cases hk : k < 70
        · have CM := markText_any num HNM.out HT2.out
          have HM := Lib.hid (show n + k + 1 ≤ maxLen ∧ (n + k + 1) * 16 ≤ 140737488355328 by unfold maxLen; omega)
          have HB2 := Lib.hid (Nat.le_trans HBW1.out hl.upd.size)
          have HMO : Hid (∀ u ∈ markT num, u.oneCell' = true) := Lib.hid (fun u hu => by rw [List.mem_singleton.1 hu]; rfl)
          have hki : (k : Int) < 70 := by omega
          clear hl hpb2
          go_wp2_with fail
          refine CM.mono ?_
          rintro e w5 ⟨rfl, u⟩
          have HX6 := Lib.hid ((Upd.refl none' w5).alloc (.cells #[.string (str (wordL num))] 9))
          have HL6 := Lib.hid ((HL.out.ext u).ext HX6.out)
          have HB6 := Lib.hid (Nat.le_trans (Nat.le_trans HB2.out u.size) HX6.out.size)
          have hb6 := blk_alloc w5 (.cells #[.string (str (wordL num))] 9)
          have HN6 := Lib.hid (fun (j : Nat) (u : Value) (hu : (markT num)[j]? = some u) => show World.cell? _ ((⟨w5.heap.size, 0, none⟩ : Addr).add j) = some u from by rw [show (⟨w5.heap.size, 0, none⟩ : Addr).add j = ⟨w5.heap.size, j, none⟩ from by unfold Addr.add; split <;> simp_all, cell_of_blk hb6]; simpa using hu)
          clear u CM hb6
          go_wp2_with (first
            | (refine wpList_build1 rfl 25 9 _ rfl (.string (str (wordL num))) rfl Tryz.underlying25 j0 (.string ⟨#[]⟩) hj0 hjz0 hjz1 rfl ?_)
            | (at_builtin; go_must (refine wpList_app2 rfl _ _ 25 rfl B 9 j0 (.string ⟨#[]⟩) 1 16 Tryz.underlying25 hj0 hjz0 hjz1 hjz2 rfl (by decide) u4 _ _ rfl HL6.out.own ⟨w5.heap.size, 0, none⟩ 1 1 (markT num) rfl rfl HN6.out HMO.out HM.out.1 HM.out.2 HB6.out ?_)))
          intro v' w7 ho hg hbl
          have HL7 := Lib.hid (HL6.out.app ho hg (by rw [World.size_alloc]; exact hbl))
          clear ho hg hbl
          go_wp2_with fail
          exact ⟨⟨k + 1, by simp, by omega, HL7.out⟩, by simp [RowKit.intOf]; omega⟩
        · obtain rfl : k = 70 := by omega
          obtain ⟨la, lcap, hlv⟩ := own_slice hl.own
          subst hlv
          have hu2 := HU1.out.then hl.upd (fun g _ hs => .inl (HLB.out g hs))
          have cb : wr.cell? ⟨b, 3, none⟩ = some (.slice (some ⟨tg, 0, none⟩) L.length tcap) := (Upd.cell hu2 (lt_of_cell HB.out) HBB.out).trans HB.out
          have htg2 := hl.upd.blk HTG1.out (fun hs => (HVL.out _ hs).2 rfl)
          have f1 := free_of_blk htg2 (i * 3 + 1)
          have c1 : ∃ u, wr.cell? ⟨tg, i * 3 + 1, none⟩ = some u := by rw [cell_of_blk htg2]; exact ⟨_, Array.getElem?_eq_getElem HTGC.out⟩
          obtain ⟨u1, c1⟩ := c1
          have HG2 := Lib.hid (HG1.out.step HI.out hl.upd hl.own hl.blk hl.read (tg := tg) rfl)
          have HU2 := Lib.hid (hu2.setCell (p := ⟨tg, i * 3 + 1, none⟩) (.inr (.inr rfl)) (.slice la (n + 70) lcap))
          clear hl hpb2 hu2 htg2 c2
          go_wp2_with fail
          exact ⟨⟨i + 1, _, by simp, by omega, HG2.out, HU2.out⟩, by simp [RowKit.intOf]; omega⟩
    · obtain rfl : i = L.length := by omega
      clear hh hu
      go_wp2_with fail
      go_end0
      exact ⟨rfl, ⟨L', HH.out⟩, HU.out⟩

section
variable {P : Program} {l : List Oper} {w0 : World} {se : Nat → Addr} {F : List (Value ⊕ EV)} {a0 : Act} {i : Nat} {o : Oper}
theorem ty_lenS {x : Operand} {t e : TypeId} (a : Option Addr) (n cap : Nat) (hu : P.underlying t = some (.slice e)) (hg : Gd l se F a0 o) (ho : o.op = .call { callee := .builtin .len, args := #[x], argTypes := #[t] }) (hF : F[i]? = some (.inl (.int .i64 n))) (hx : Kn l se F a0 o x (.slice a n cap)) : OpSpec P l w0 (Slots se F) a0 i o :=
  ty_val hg hF (fun a' w _ hH hN => by
    simp [execOp, ho, resolve, invoke, builtin, hx a' w hH hN, Builtin.len_, Builtin.lenOf, run_underlying hu]
    rfl)
end
theorem run_lssInt {P : Program} {t : TypeId} {x y : Operand} (k : IntKind) (m n : Int) (b : Bool) (hb : decide (m < n) = b) (W : World) : (do eqGuard .lss t x y (.int k m) (.int k n); binOp .lss t (.int k m) (.int k n) : Sem Value).run P W = .ok (.bool b) W := by
  subst hb
  simp [eqGuard, go_sem]
theorem ReadV.at {W : World} {a : Option Addr} {n cap : Nat} {m : Value} (h : ReadV W (.slice a n cap) n [m]) (k : Nat) (hk : k < n) : ∃ g, a = some ⟨g, 0, none⟩ ∧ W.cell? ⟨g, k, none⟩ = some m := by
  obtain ⟨a', cap', hv, hr⟩ := h
  simp only [Value.slice.injEq] at hv
  obtain ⟨g, hg, hj⟩ := hr k hk
  refine ⟨g, hv.1.trans hg, ?_⟩
  have := hj 0 m rfl
  simpa using this

set_option maxRecDepth 8000 in
set_option maxHeartbeats 8000000 in
theorem lookT_any {B b : Nat} {W : World} {tv : Value} {L L' : List HeldD} (hb : W.cell? ⟨b, 3, none⟩ = some tv) (H : GrowT B W tv L L' L.length) (T : Tab10 W) (hn : L.length ≤ 1000000) (hnn : ∀ (i : Nat) h, L[i]? = some h → h.n ≤ 1000000000 ∧ h.num ≤ 1000000000) :
    Calls Tryz.prog 91 #[.pointer (some ⟨b, 0, none⟩)] W fun e W' => e = .returned (.bool true) ∧ Ext W W' := by
  obtain ⟨ta, tcap, rfl⟩ := own_slice H.row
  rw [H.len] at hb
  have HLEN := Lib.hid H.len
  have HB := Lib.hid hb
  have HH := Lib.hid H
  have HT0 := Lib.hid T
  have HNN := Lib.hid hnn
  clear H T hnn
  go_enter Tryz.func91, Tryz.ntmps91
  go_wp2_with fail
  go_loopw [3] (fun iv wr => ∃ (i : Nat), iv = .int .i64 i ∧ i ≤ L.length ∧ Ext W wr) (fun iv _ => L.length - (RowKit.intOf iv).toNat)
  case atStart => exact ⟨0, rfl, Nat.zero_le _, Upd.refl _ _⟩
  case round =>
    obtain ⟨i, rfl, hi1, hu⟩ := hrel
    have HU := Lib.hid hu
    have cb : wr.cell? ⟨b, 3, none⟩ = some (.slice ta L.length tcap) := Ext.cellv hu HB.out
    by_cases hlt : i < L.length
    · have hil' : i < L'.length := by rw [HLEN.out]; exact hlt
      have hi := List.getElem?_eq_getElem hil'
      generalize L'[i] = hd at hi
      have hh := HH.out.ext hu
      obtain ⟨tg, tcap2, tcl, htv, _, htb, htc⟩ := own_at hh.row (by omega)
      simp only [Value.slice.injEq, true_and] at htv
      obtain ⟨rfl, _, rfl⟩ := htv
      have HROW := Lib.hid (fun (j : Nat) (u : Value) (hu : (heldL hd)[j]? = some u) => show wr.cell? ⟨tg, i * 3 + j, none⟩ = some u by
        rw [cell_of_blk htb]
        refine htc _ _ ?_
        rw [heldsL_at L' i j hd hi (List.getElem?_eq_some_iff.1 hu).1]; exact hu)
      obtain ⟨hd1, hd2⟩ := hh.done i hd hlt hi
      obtain ⟨h0, hL0⟩ : ∃ h0, L[i]? = some h0 := ⟨_, List.getElem?_eq_getElem hlt⟩
      obtain ⟨h', e1, e2, e3, e4⟩ := hh.same i h0 hL0
      rw [hi] at e1
      cases e1
      obtain ⟨hn1, hn2⟩ := HNN.out i _ hL0
      rw [← e3] at hn1
      rw [← e4] at hn2
      obtain ⟨v, long, n, num⟩ := hd
      obtain ⟨va, vcap, hv, hvr⟩ := hd2
      simp only at hv hd1 hn1 hn2
      subst hv
      have HVR := Lib.hid (show ReadV wr (.slice va n vcap) n (markT num) from ⟨va, vcap, rfl, hvr⟩)
      obtain ⟨lg, lcap, lcl, hlv, _, hlb, hlc⟩ := own_at hd1 (by omega)
      subst hlv
      have HLR := Lib.hid (show ReadV wr (.slice (some ⟨lg, 0, none⟩) (n + 70) lcap) (n + 70) (markT num) from own_read (k := 0) hd1)
      have HNM := Lib.hid hn2
      have hlti : (i : Int) < L.length := by omega
      have hpb := blk_alloc wr (.cells #[.slice va n vcap, .slice (some ⟨lg, 0, none⟩) (n + 70) lcap, .int .i64 num] 153)
      have HX1 := Lib.hid ((Upd.refl none' wr).alloc (.cells #[.slice va n vcap, .slice (some ⟨lg, 0, none⟩) (n + 70) lcap, .int .i64 num] 153))
      have HPB0 := Lib.hid hpb
      have HU1 := Lib.hid (hu.trans HX1.out)
      clear hh hu hi htb htc hpb hn2 hd1 hvr hlb hlc hL0 e2 e3 e4 hil'
      go_wp2_with (refine wpList_loadAgg rfl 153 _ rfl tg (i * 3) (by go_simp; all_goals exact rfl) [.slice va n vcap, .slice (some ⟨lg, 0, none⟩) (n + 70) lcap, .int .i64 num] Tryz.underlying153 rfl held_size HROW.out ?_)
      have HVR1 := Lib.hid (HVR.out.ext HX1.out)
      have HLR1 := Lib.hid (HLR.out.ext HX1.out)
      clear HX1 HVR HLR HROW cb
      generalize hhb : wr.heap.size = hb at *
      generalize hW1 : wr.alloc (.cells #[.slice va n vcap, .slice (some ⟨lg, 0, none⟩) (n + 70) lcap, .int .i64 num] 153) = W1 at *
      go_loopw [5] (fun kv wr => ∃ (k : Nat), kv = .int .i64 k ∧ k ≤ n + 70 ∧ Ext W1 wr ∧ wr.heap[hb]? = some (.cells #[.slice va n vcap, .slice (some ⟨lg, 0, none⟩) (n + 70) lcap, .int .i64 num] 153 (0, 0))) (fun kv _ => n + 70 - (RowKit.intOf kv).toNat)
      case atStart => exact ⟨0, rfl, Nat.zero_le _, Upd.refl _ _, HPB0.out⟩
      case round =>
        obtain ⟨k, rfl, hk1, hu, hpb⟩ := hrel
        have HPB := Lib.hid hpb
        have HUW := Lib.hid (HU1.out.trans hu)
        have c1 := cell_of_blk hpb 1
        simp only [List.size_toArray, List.getElem?_toArray, List.getElem?_cons_zero, List.getElem?_cons_succ] at c1
        by_cases hkn : k < n + 70
        · have HKN := Lib.hid hkn
          have HC0 := Lib.hid (fun (w1 : World) (hX : Ext wr w1) => show w1.cell? ⟨hb, 0, none⟩ = some (.slice va n vcap) from cell_of_blk (Ext.blk hX HPB.out) 0)
          have HC1 := Lib.hid (fun (w1 : World) (hX : Ext wr w1) => show w1.cell? ⟨hb, 1, none⟩ = some (.slice (some ⟨lg, 0, none⟩) (n + 70) lcap) from cell_of_blk (Ext.blk hX HPB.out) 1)
          have HC2 := Lib.hid (fun (w1 : World) (hX : Ext wr w1) => show w1.cell? ⟨hb, 2, none⟩ = some (.int .i64 num) from cell_of_blk (Ext.blk hX HPB.out) 2)
          have HT := Lib.hid (HT0.out.ext HUW.out)
          have HLC := Lib.hid (fun (w1 : World) (hX : Ext wr w1) => show w1.cell? ⟨lg, k, none⟩ = some (.string (str (wordL num))) by
            obtain ⟨g, hg, hc⟩ := ((HLR1.out.ext hu).ext hX).at k HKN.out
            simp only [Option.some.injEq, Addr.mk.injEq, and_true] at hg
            rw [hg]; exact hc)
          have HU := Lib.hid hu
          have hki : (k : Int) < (n : Int) + 70 := by omega
          clear hpb
          by_cases hkv : k < n
          · obtain ⟨vg, hvg, hvc⟩ := (HVR1.out.ext hu).at k hkv
            subst hvg
            have HVC := Lib.hid (fun (w1 : World) (hX : Ext wr w1) => Ext.cellv hX hvc)
            have HKV := Lib.hid hkv
            have HLT2 := Lib.hid (show decide ((k : Int) < (n : Int)) = true by simp; omega)
            clear hu hvc hkv
            go_wp2_with fail
            refine region_slots (fun _ => ⟨0, 0, none⟩) [.inl (.pointer (some ⟨hb, 1, none⟩)), .inl (.slice (some ⟨lg, 0, none⟩) (n + 70) lcap), .inl (.int .i64 (k : Int)), .inl (.pointer (some ⟨lg, k, none⟩)), .inl (.string (str (wordL num))), .inl (.pointer (some ⟨hb, 2, none⟩)), .inl (.int .i64 num), .inl (.bool true), .inl (.bool false), .inl (.bool false), .inl (.int .i64 (k : Int)), .inl (.pointer (some ⟨hb, 0, none⟩)), .inl (.slice (some ⟨vg, 0, none⟩) n vcap), .inl (.int .i64 n), .inl (.bool true), .inl (.bool true), .inl (.pointer (some ⟨hb, 0, none⟩)), .inl (.slice (some ⟨vg, 0, none⟩) n vcap), .inl (.int .i64 (k : Int)), .inl (.pointer (some ⟨vg, k, none⟩)), .inl (.string (str (wordL num))), .inl (.pointer (some ⟨hb, 2, none⟩)), .inl (.int .i64 num), .inl (.bool true), .inl (.bool false), .inl (.bool false), .inl (.bool false)] (by kernel_rfl) (by rfl) (by rfl) ?_ ?_
            rotate_left
            · intro v' w' X hv
              have h63 := slot_val (hv 26 _ 63 rfl rfl) rfl
              have HX2 := Lib.hid X
              have HPX := Lib.hid (Ext.blk X HPB.out)
              clear X hv
              refine q_norm (by simp only [putAll]; rewrite [h63]; go_simp; all_goals exact rfl) ?_
              clear h63
              go_wp2_with fail
              exact ⟨⟨k + 1, by simp, by omega, HU.out.trans HX2.out, HPX.out⟩, by simp [RowKit.intOf]; omega⟩
            refine ⟨ty_fieldAddr _ _ (gd_none rfl) rfl rfl (kn_old 4 rfl rfl) (fun w1 => by kernel_rfl), ?_⟩
            refine ⟨ty_load1 ⟨hb, 1, none⟩ _ (gd_none rfl) rfl rfl (kn_new 0 rfl rfl rfl rfl) Tryz.underlying25 rfl (fun w1 hX => HC1.out w1 hX), ?_⟩
            refine ⟨ty_move (gd_none rfl) rfl rfl (kn_old 5 rfl rfl), ?_⟩
            refine ⟨ty_indexSlice1 lg _ _ k _ (gd_none rfl) rfl rfl (kn_new 1 rfl rfl rfl rfl) (kn_new 2 rfl rfl rfl rfl) HKN.out Tryz.underlying25 size_str1, ?_⟩
            refine ⟨ty_load1 ⟨lg, k, none⟩ _ (gd_none rfl) rfl rfl (kn_new 3 rfl rfl rfl rfl) Tryz.underlying9 rfl (fun w1 hX => HLC.out w1 hX), ?_⟩
            refine ⟨ty_fieldAddr _ _ (gd_none rfl) rfl rfl (kn_old 4 rfl rfl) (fun w1 => by kernel_rfl), ?_⟩
            refine ⟨ty_load1 ⟨hb, 2, none⟩ _ (gd_none rfl) rfl rfl (kn_new 5 rfl rfl rfl rfl) Tryz.underlying3 rfl (fun w1 hX => HC2.out w1 hX), ?_⟩
            refine ⟨ty_call2 117 _ _ _ _ _ (gd_none rfl) rfl body_isText (kn_new 4 rfl rfl rfl rfl) (kn_new 6 rfl rfl rfl rfl) (fun w1 hX => known_call rfl (isText_any num HNM.out (HT.out.ext hX))), ?_⟩
            refine ⟨ty_not true (gd_none rfl) rfl rfl (kn_new 7 rfl rfl rfl rfl), ?_⟩
            refine ⟨ty_move (gd_none rfl) rfl rfl (kn_new 8 rfl rfl rfl rfl), ?_⟩
            refine ⟨ty_move (gd_some 9 rfl rfl rfl rfl rfl) rfl rfl (kn_old 5 rfl rfl), ?_⟩
            refine ⟨ty_fieldAddr _ _ (gd_some 9 rfl rfl rfl rfl rfl) rfl rfl (kn_old 4 rfl rfl) (fun w1 => by kernel_rfl), ?_⟩
            refine ⟨ty_load1 ⟨hb, 0, none⟩ _ (gd_some 9 rfl rfl rfl rfl rfl) rfl rfl (kn_new 11 rfl rfl rfl rfl) Tryz.underlying25 rfl (fun w1 hX => HC0.out w1 hX), ?_⟩
            refine ⟨ty_lenS (some ⟨vg, 0, none⟩) n vcap Tryz.underlying25 (gd_some 9 rfl rfl rfl rfl rfl) rfl rfl (kn_new 12 rfl rfl rfl rfl), ?_⟩
            refine ⟨ty_bin _ _ _ (gd_some 9 rfl rfl rfl rfl rfl) rfl rfl (kn_new 10 rfl rfl rfl rfl) (kn_new 13 rfl rfl rfl rfl) (run_lssInt .i64 _ _ _ HLT2.out), ?_⟩
            refine ⟨ty_move (gd_some 9 rfl rfl rfl rfl rfl) rfl rfl (kn_new 14 rfl rfl rfl rfl), ?_⟩
            refine ⟨ty_fieldAddr _ _ (gd_some 15 rfl rfl rfl rfl rfl) rfl rfl (kn_old 4 rfl rfl) (fun w1 => by kernel_rfl), ?_⟩
            refine ⟨ty_load1 ⟨hb, 0, none⟩ _ (gd_some 15 rfl rfl rfl rfl rfl) rfl rfl (kn_new 16 rfl rfl rfl rfl) Tryz.underlying25 rfl (fun w1 hX => HC0.out w1 hX), ?_⟩
            refine ⟨ty_move (gd_some 15 rfl rfl rfl rfl rfl) rfl rfl (kn_old 5 rfl rfl), ?_⟩
            refine ⟨ty_indexSlice1 vg _ _ k _ (gd_some 15 rfl rfl rfl rfl rfl) rfl rfl (kn_new 17 rfl rfl rfl rfl) (kn_new 18 rfl rfl rfl rfl) HKV.out Tryz.underlying25 size_str1, ?_⟩
            refine ⟨ty_load1 ⟨vg, k, none⟩ _ (gd_some 15 rfl rfl rfl rfl rfl) rfl rfl (kn_new 19 rfl rfl rfl rfl) Tryz.underlying9 rfl (fun w1 hX => HVC.out w1 hX), ?_⟩
            refine ⟨ty_fieldAddr _ _ (gd_some 15 rfl rfl rfl rfl rfl) rfl rfl (kn_old 4 rfl rfl) (fun w1 => by kernel_rfl), ?_⟩
            refine ⟨ty_load1 ⟨hb, 2, none⟩ _ (gd_some 15 rfl rfl rfl rfl rfl) rfl rfl (kn_new 21 rfl rfl rfl rfl) Tryz.underlying3 rfl (fun w1 hX => HC2.out w1 hX), ?_⟩
            refine ⟨ty_call2 117 _ _ _ _ _ (gd_some 15 rfl rfl rfl rfl rfl) rfl body_isText (kn_new 20 rfl rfl rfl rfl) (kn_new 22 rfl rfl rfl rfl) (fun w1 hX => known_call rfl (isText_any num HNM.out (HT.out.ext hX))), ?_⟩
            refine ⟨ty_not true (gd_some 15 rfl rfl rfl rfl rfl) rfl rfl (kn_new 23 rfl rfl rfl rfl), ?_⟩
            refine ⟨ty_pickT (gd_some 9 rfl rfl rfl rfl rfl) rfl rfl (kn_new 15 rfl rfl rfl rfl) (kn_new 24 rfl rfl rfl rfl), ?_⟩
            refine ⟨ty_pickF (gd_none rfl) rfl rfl (kn_new 9 rfl rfl rfl rfl) (kn_new 25 rfl rfl rfl rfl), ?_⟩
            exact trivial
          · have HLT2 := Lib.hid (show decide ((k : Int) < (n : Int)) = false by simp; omega)
            clear hu hkv
            go_wp2_with fail
            refine region_slots (fun _ => ⟨0, 0, none⟩) [.inl (.pointer (some ⟨hb, 1, none⟩)), .inl (.slice (some ⟨lg, 0, none⟩) (n + 70) lcap), .inl (.int .i64 (k : Int)), .inl (.pointer (some ⟨lg, k, none⟩)), .inl (.string (str (wordL num))), .inl (.pointer (some ⟨hb, 2, none⟩)), .inl (.int .i64 num), .inl (.bool true), .inl (.bool false), .inl (.bool false), .inl (.int .i64 (k : Int)), .inl (.pointer (some ⟨hb, 0, none⟩)), .inl (.slice va n vcap), .inl (.int .i64 n), .inl (.bool false), .inl (.bool false), .inl undef, .inl undef, .inl undef, .inl undef, .inl undef, .inl undef, .inl undef, .inl undef, .inl undef, .inl (.bool false), .inl (.bool false)] (by kernel_rfl) (by rfl) (by rfl) ?_ ?_
            rotate_left
            · intro v' w' X hv
              have h63 := slot_val (hv 26 _ 63 rfl rfl) rfl
              have HX2 := Lib.hid X
              have HPX := Lib.hid (Ext.blk X HPB.out)
              clear X hv
              refine q_norm (by simp only [putAll]; rewrite [h63]; go_simp; all_goals exact rfl) ?_
              clear h63
              go_wp2_with fail
              exact ⟨⟨k + 1, by simp, by omega, HU.out.trans HX2.out, HPX.out⟩, by simp [RowKit.intOf]; omega⟩
            refine ⟨ty_fieldAddr _ _ (gd_none rfl) rfl rfl (kn_old 4 rfl rfl) (fun w1 => by kernel_rfl), ?_⟩
            refine ⟨ty_load1 ⟨hb, 1, none⟩ _ (gd_none rfl) rfl rfl (kn_new 0 rfl rfl rfl rfl) Tryz.underlying25 rfl (fun w1 hX => HC1.out w1 hX), ?_⟩
            refine ⟨ty_move (gd_none rfl) rfl rfl (kn_old 5 rfl rfl), ?_⟩
            refine ⟨ty_indexSlice1 lg _ _ k _ (gd_none rfl) rfl rfl (kn_new 1 rfl rfl rfl rfl) (kn_new 2 rfl rfl rfl rfl) HKN.out Tryz.underlying25 size_str1, ?_⟩
            refine ⟨ty_load1 ⟨lg, k, none⟩ _ (gd_none rfl) rfl rfl (kn_new 3 rfl rfl rfl rfl) Tryz.underlying9 rfl (fun w1 hX => HLC.out w1 hX), ?_⟩
            refine ⟨ty_fieldAddr _ _ (gd_none rfl) rfl rfl (kn_old 4 rfl rfl) (fun w1 => by kernel_rfl), ?_⟩
            refine ⟨ty_load1 ⟨hb, 2, none⟩ _ (gd_none rfl) rfl rfl (kn_new 5 rfl rfl rfl rfl) Tryz.underlying3 rfl (fun w1 hX => HC2.out w1 hX), ?_⟩
            refine ⟨ty_call2 117 _ _ _ _ _ (gd_none rfl) rfl body_isText (kn_new 4 rfl rfl rfl rfl) (kn_new 6 rfl rfl rfl rfl) (fun w1 hX => known_call rfl (isText_any num HNM.out (HT.out.ext hX))), ?_⟩
            refine ⟨ty_not true (gd_none rfl) rfl rfl (kn_new 7 rfl rfl rfl rfl), ?_⟩
            refine ⟨ty_move (gd_none rfl) rfl rfl (kn_new 8 rfl rfl rfl rfl), ?_⟩
            refine ⟨ty_move (gd_some 9 rfl rfl rfl rfl rfl) rfl rfl (kn_old 5 rfl rfl), ?_⟩
            refine ⟨ty_fieldAddr _ _ (gd_some 9 rfl rfl rfl rfl rfl) rfl rfl (kn_old 4 rfl rfl) (fun w1 => by kernel_rfl), ?_⟩
            refine ⟨ty_load1 ⟨hb, 0, none⟩ _ (gd_some 9 rfl rfl rfl rfl rfl) rfl rfl (kn_new 11 rfl rfl rfl rfl) Tryz.underlying25 rfl (fun w1 hX => HC0.out w1 hX), ?_⟩
            refine ⟨ty_lenS va n vcap Tryz.underlying25 (gd_some 9 rfl rfl rfl rfl rfl) rfl rfl (kn_new 12 rfl rfl rfl rfl), ?_⟩
            refine ⟨ty_bin _ _ _ (gd_some 9 rfl rfl rfl rfl rfl) rfl rfl (kn_new 10 rfl rfl rfl rfl) (kn_new 13 rfl rfl rfl rfl) (run_lssInt .i64 _ _ _ HLT2.out), ?_⟩
            refine ⟨ty_move (gd_some 9 rfl rfl rfl rfl rfl) rfl rfl (kn_new 14 rfl rfl rfl rfl), ?_⟩
            refine ⟨ty_skip 15 rfl rfl rfl rfl rfl rfl rfl, ?_⟩
            refine ⟨ty_skip 15 rfl rfl rfl rfl rfl rfl rfl, ?_⟩
            refine ⟨ty_skip 15 rfl rfl rfl rfl rfl rfl rfl, ?_⟩
            refine ⟨ty_skip 15 rfl rfl rfl rfl rfl rfl rfl, ?_⟩
            refine ⟨ty_skip 15 rfl rfl rfl rfl rfl rfl rfl, ?_⟩
            refine ⟨ty_skip 15 rfl rfl rfl rfl rfl rfl rfl, ?_⟩
            refine ⟨ty_skip 15 rfl rfl rfl rfl rfl rfl rfl, ?_⟩
            refine ⟨ty_skip 15 rfl rfl rfl rfl rfl rfl rfl, ?_⟩
            refine ⟨ty_skip 15 rfl rfl rfl rfl rfl rfl rfl, ?_⟩
            refine ⟨ty_pickF (gd_some 9 rfl rfl rfl rfl rfl) rfl rfl (kn_new 15 rfl rfl rfl rfl) kn_const, ?_⟩
            refine ⟨ty_pickF (gd_none rfl) rfl rfl (kn_new 9 rfl rfl rfl rfl) (kn_new 25 rfl rfl rfl rfl), ?_⟩
            exact trivial
        · obtain rfl : k = n + 70 := by omega
          have hki : ¬ ((n + 70 : Nat) : Int) < (n : Int) + 70 := by omega
          clear hu hpb
          go_wp2_with fail
          exact ⟨⟨i + 1, by simp, by omega, HUW.out⟩, by simp [RowKit.intOf]; omega⟩
    · obtain rfl : i = L.length := by omega
      clear hu
      go_wp2_with fail
      go_ret
      exact ⟨rfl, HU.out⟩

theorem size_helds : (Tryz.prog.info? 49).map (·.size) = some 1 := by kernel_rfl
theorem held_zero : ((Tryz.prog.info? 153).bind (·.zero)).isSome = true := by kernel_rfl
theorem info_held : (Tryz.prog.info? 153).map (fun i => (i.zero, i.size, i.bytes)) = some (some (.agg #[.slice none 0 0, .slice none 0 0, .int .i64 0]), 3, 56) := by kernel_rfl
section
variable {P : Program} {ops : Array Oper} {Q : Exit → Act → World → Prop} {a : Act} {w : World} {i : Nat} {o : Oper} {K : Act → World → Prop}
theorem op_buildOneA (hi : ops[i]? = some o) (hw : Region.wanted o (yielded ops a.tmps) = true) (t e : TypeId) (y : Operand) (ho : o.op = .buildSlice t 1 #[(0, y)])
    (vs : List Value) (hy : a.eval y = .agg vs.toArray) (hu : P.underlying t = some (.slice e)) (hie : (P.info? e).map (·.size) = some vs.length) (hz : ((P.info? e).bind (·.zero)).isSome = true) (hpos : 0 < vs.length) (hsmall : vs.length ≤ 16777216)
    (h : K (a.put o.dst (.slice (some ⟨w.heap.size, 0, none⟩) 1 1)) (w.alloc (.cells vs.toArray e))) : wpOp P ops Q i K a w := by
  cases hq : P.info? e with
  | none => simp [hq] at hie
  | some ie =>
    simp only [hq, Option.map_some, Option.some.injEq, Option.bind_some] at hie hz
    obtain ⟨z, hzz⟩ := Option.isSome_iff_exists.1 hz
    refine op_val hi hw ?_ h
    have hr := run_buildSlice (P := P) w t e 1 #[(0, .agg vs.toArray)] vs.toArray ie z hu hq hzz (by rw [hie]; omega) (by rw [hie]; omega) (by
      simp only [Instr.fill, Value.cells, hie, Nat.zero_mul, Nat.one_mul]
      rw [if_neg (by simp), fold_all _ _ (by simp)])
    simp only [execOp, ho, List.map_toArray, List.map_cons, List.map_nil, hy, Sem.run_bind, hr, Result.andThen_ok]
    rfl
end
section
variable {B : Nat} {W W2 : World} {tv tv' : Value} {L : List HeldD} {C : Nat → List Value}
theorem HoldT.keep (h : HoldT B W tv L C) {v : Value} {n : Nat} {xs : List Value} (hv : W.ownsRow B 9 1 v n xs) (hsep : ∀ (i : Nat) h g, L[i]? = some h → v.ownBlock = some g → h.v.ownBlock ≠ some g) {num : Nat}
    (ho : W2.ownsRow B 153 3 tv' (L.length + 1) (heldsL L ++ [v, .slice none 0 0, .int .i64 num])) (hg : W.grownBy W2 tv.ownBlock) : HoldT B W2 tv' (L ++ [⟨v, .slice none 0 0, n, num⟩]) (fun j => if j = L.length then xs else C j) := by
  have U : Upd (fun g => tv.ownBlock = some g) W W2 := (Upd.refl _ W).grown hg (fun g hg => .inr hg)
  have get : ∀ (j : Nat) hd, (L ++ [⟨v, .slice none 0 0, n, num⟩])[j]? = some hd → (j = L.length ∧ hd = ⟨v, .slice none 0 0, n, num⟩) ∨ (j ≠ L.length ∧ L[j]? = some hd) := fun j hd hj => by
    by_cases hlt : j < L.length
    · rw [List.getElem?_append_left hlt] at hj
      exact .inr ⟨by omega, hj⟩
    · rw [List.getElem?_append_right (by omega)] at hj
      have hl := (List.getElem?_eq_some_iff.1 hj).1
      simp only [List.length_cons, List.length_nil] at hl
      have e : j = L.length := by omega
      subst e
      simp only [Nat.sub_self, List.getElem?_cons_zero, Option.some.injEq] at hj
      exact .inl ⟨rfl, hj.symm⟩
  refine ⟨?_, fun j hd hj => ?_, fun j k hd hd' g hj hk hne hg2 => ?_⟩
  · have e : heldsL (L ++ [⟨v, .slice none 0 0, n, num⟩]) = heldsL L ++ [v, .slice none 0 0, .int .i64 num] := by unfold heldsL; rw [List.flatMap_append]; rfl
    rw [e, List.length_append]
    exact ho
  · rcases get j hd hj with ⟨e, rfl⟩ | ⟨e, hj⟩
    · simp only [if_pos e]
      exact ownsRow_upd hv U (fun g hg2 hs => own_apart hv h.row (by decide) hg2 hs)
    · simp only [if_neg e]
      exact ownsRow_upd (h.own j hd hj) U (fun g hg2 hs => h.apart ⟨j, hd, hj, hg2⟩ hs)
  · rcases get j hd hj with ⟨e, rfl⟩ | ⟨e, hj⟩ <;> rcases get k hd' hk with ⟨e', rfl⟩ | ⟨e', hk⟩
    · omega
    · exact hsep k hd' g hk hg2
    · exact fun hg3 => hsep j hd g hj hg3 hg2
    · exact h.sep j k hd hd' g hj hk hne hg2
/-- A store into the book itself. -/
theorem HoldT.store (h : HoldT B W tv L C) {b : Nat} {cs : Array Value} {f : Nat × Nat} (hb : W.heap[b]? = some (.cells cs 64 f)) (c : Nat) (u : Value) : HoldT B (W.setCell ⟨b, c, none⟩ u) tv L C := by
  refine h.upd ((Upd.refl (one b) W).setCell (p := ⟨b, c, none⟩) (.inr rfl) u) (fun g hg => ?_)
  obtain rfl : g = b := hg
  refine ⟨fun ⟨i, hd, hi, hg2⟩ => ?_, fun hg2 => ?_⟩
  · obtain ⟨cl, h1⟩ := own_ty (h.own i hd hi) hg2
    rw [hb] at h1
    simp only [Option.some.injEq, Obj.cells.injEq] at h1
    exact absurd h1.2.1 (by decide)
  · obtain ⟨cl, h1⟩ := own_ty h.row hg2
    rw [hb] at h1
    simp only [Option.some.injEq, Obj.cells.injEq] at h1
    exact absurd h1.2.1 (by decide)
end
theorem row_not_book {W : World} {B b : Nat} {e : TypeId} {size n : Nat} {v : Value} {xs : List Value} {cs : Array Value} {f : Nat × Nat} (h : W.ownsRow B e size v n xs) (hb : W.heap[b]? = some (.cells cs 64 f)) (he : e ≠ 64) : v.ownBlock ≠ some b := fun hg => by
  obtain ⟨cl, h1⟩ := own_ty h hg
  rw [hb] at h1
  simp only [Option.some.injEq, Obj.cells.injEq] at h1
  exact he h1.2.1.symm

set_option maxRecDepth 8000 in
set_option maxHeartbeats 4000000 in
theorem keepT_any {B b N : Nat} {W : World} {tv v : Value} {L : List HeldD} {C : Nat → List Value} {cs : List Value} {n : Nat} {xs : List Value} (hb : W.heap[b]? = some (.cells cs.toArray 64 (0, 0))) (h0 : cs[0]? = some (.int .i64 N)) (h3 : cs[3]? = some tv)
    (H : HoldT B W tv L C) (hv : W.ownsRow B 9 1 v n xs) (hsep : ∀ (i : Nat) h g, L[i]? = some h → v.ownBlock = some g → h.v.ownBlock ≠ some g) (hB : B ≤ W.heap.size) (hN : N ≤ 1000000) (hn : L.length ≤ 1000000) :
    Calls Tryz.prog 56 #[.pointer (some ⟨b, 0, none⟩), v] W fun e W' => e = .returned (.tuple #[]) ∧ ∃ tv', HoldT B W' tv' (L ++ [⟨v, .slice none 0 0, n, N + 1⟩]) (fun j => if j = L.length then xs else C j) ∧
      W'.heap[b]? = some (.cells ((cs.toArray.setIfInBounds 0 (.int .i64 ((N : Int) + 1))).setIfInBounds 3 tv') 64 (0, 0)) ∧ Upd (fun g => g = b ∨ tv.ownBlock = some g) W W' := by
  obtain ⟨j0, hj0, hjz0, hjz1, hjz2⟩ := info_parts info_held
  obtain ⟨va, vcap, rfl⟩ := own_slice hv
  have c0 : W.cell? ⟨b, 0, none⟩ = some (.int .i64 N) := by rw [cell_of_blk hb]; simpa using h0
  have f0 := free_of_blk hb 0
  have hs := blk_set hb 0 (.int .i64 ((N : Int) + 1))
  have HBK1 := Lib.hid hs
  have HH1 := Lib.hid (H.store hb 0 (.int .i64 ((N : Int) + 1)))
  have U1 : Upd (fun g => g = b ∨ tv.ownBlock = some g) W (W.setCell ⟨b, 0, none⟩ (.int .i64 ((N : Int) + 1))) := (Upd.refl _ W).setCell (p := ⟨b, 0, none⟩) (.inr (.inl rfl)) _
  have HU1 := Lib.hid U1
  have HV1 := Lib.hid (ownsRow_upd hv ((Upd.refl (one b) W).setCell (p := ⟨b, 0, none⟩) (.inr rfl) (.int .i64 ((N : Int) + 1))) (fun g hg e => by
    obtain rfl : g = b := e
    exact row_not_book hv hb (by decide) hg))
  have HSEP := Lib.hid hsep
  have HB1 := Lib.hid (Nat.le_trans hB U1.size)
  have hl0 : 0 < cs.length := (List.getElem?_eq_some_iff.1 h0).1
  have HC0 := Lib.hid (show (cs.toArray.setIfInBounds 0 (.int .i64 ((N : Int) + 1)))[0]? = some (.int .i64 ((N : Int) + 1)) by simp [hl0])
  have HC3 := Lib.hid (show (cs.toArray.setIfInBounds 0 (.int .i64 ((N : Int) + 1)))[3]? = some tv by rw [Array.getElem?_setIfInBounds_ne (by decide)]; simpa using h3)
  have HBT := Lib.hid (row_not_book H.row hb (by decide))
  have HM := Lib.hid (show L.length + 1 ≤ maxLen ∧ (L.length + 1) * 56 ≤ 140737488355328 by unfold maxLen; omega)
  have HONE := Lib.hid (held_one (.slice va n vcap) (.slice none 0 0) ((N : Int) + 1) rfl rfl)
  clear hb h0 h3 H hv hsep hB hn hs U1 hl0
  go_enter Tryz.func56, Tryz.ntmps56
  go_wp2_with fail
  generalize hW1 : W.setCell ⟨b, 0, none⟩ (.int .i64 ((N : Int) + 1)) = W1 at *
  refine wp_region_any (by kernel_rfl) ?_
  change wpAny _ _ _ _ _ _ _ (World.drew _)
  have hdr := (Upd.refl none' W1).drew
  have HH := Lib.hid (HH1.out.ext hdr)
  have HV := Lib.hid (ownsRow_upd HV1.out hdr (fun _ _ e => e))
  have HBK := Lib.hid (Ext.blk hdr HBK1.out)
  have HU := Lib.hid (HU1.out.thenExt hdr)
  have HSZ := Lib.hid (Nat.le_trans HB1.out hdr.size)
  clear hdr
  generalize W1.drew = wd at HH HV HBK HU HSZ ⊢
  (refine wpAny_take (i := 0) (v := ?_) rfl (by kernel_rfl) (by kernel_rfl) (by kernel_rfl) (fun _ _ _ h => h) (Or.inl ⟨by rfl, ?_⟩) ?_; rotate_left; (· (intro w; go_simp; all_goals (with_reducible rfl))); refine any_norm (by go_simp; all_goals exact rfl) ?_)
  (refine wpAny_take (i := 1) (v := ?_) rfl (by kernel_rfl) (by kernel_rfl) (by kernel_rfl) (fun _ _ _ h => h) (Or.inl ⟨by rfl, ?_⟩) ?_; rotate_left; (· (intro w; go_simp; all_goals (with_reducible rfl))); refine any_norm (by go_simp; all_goals exact rfl) ?_)
  (refine wpAny_take (i := 2) (v := ?_) rfl (by kernel_rfl) (by kernel_rfl) (by kernel_rfl) (fun _ _ _ h => h) (Or.inl ⟨by rfl, ?_⟩) ?_; rotate_left; (· (intro w; go_simp; all_goals (with_reducible rfl))); refine any_norm (by go_simp; all_goals exact rfl) ?_)
  (refine wpAny_take (i := 3) (v := ?_) rfl (by kernel_rfl) (by kernel_rfl) (by kernel_rfl) (fun _ _ _ h => h) (Or.inl ⟨by rfl, ?_⟩) ?_; rotate_left; (· (intro w; go_simp; all_goals (with_reducible rfl))); refine any_norm (by go_simp; all_goals exact rfl) ?_)
  (refine wpAny_take (i := 5) (v := ?_) rfl (by kernel_rfl) (by kernel_rfl) (by kernel_rfl) (fun _ _ _ h => h) (Or.inl ⟨by rfl, ?_⟩) ?_; rotate_left; (· (intro w; go_simp; all_goals (with_reducible rfl))); refine any_norm (by go_simp; all_goals exact rfl) ?_)
  (refine wpAny_take (i := 6) (v := ?_) rfl (by kernel_rfl) (by kernel_rfl) (by kernel_rfl) (fun _ _ _ h => h) (Or.inl ⟨by rfl, ?_⟩) ?_; rotate_left; (· (intro w; go_simp; all_goals (with_reducible rfl))); refine any_norm (by go_simp; all_goals exact rfl) ?_)
  (refine wpAny_take (i := 7) (v := ?_) rfl (by kernel_rfl) (by kernel_rfl) (by kernel_rfl) (fun _ _ _ h => h) (Or.inl ⟨by rfl, ?_⟩) ?_; rotate_left; (· (intro w; go_simp; all_goals (with_reducible rfl))); refine any_norm (by go_simp; all_goals exact rfl) ?_)
  (refine wpAny_take (i := 8) (v := ?_) rfl (by kernel_rfl) (by kernel_rfl) (by kernel_rfl) (fun _ _ _ h => h) (Or.inl ⟨by rfl, ?_⟩) ?_; rotate_left; (· (intro w; go_simp; all_goals (with_reducible rfl))); refine any_norm (by go_simp; all_goals exact rfl) ?_)
  refine any2 4 9 (by kernel_rfl) ?_ ?_
  · have cl := (cell_of_blk HBK.out 3).trans HC3.out
    refine op_load1 rfl (by rfl) rfl ⟨b, 3, none⟩ tv rfl Tryz.underlying49 rfl (by rw [cl]) ?_
    clear cl
    refine any_norm (by go_simp; all_goals exact rfl) ?_
    refine any1 9 (by kernel_rfl) ?_
    have cl := (cell_of_blk HBK.out 0).trans HC0.out
    refine op_load1 rfl (by rfl) rfl ⟨b, 0, none⟩ (.int .i64 ((N : Int) + 1)) rfl Tryz.underlying3 rfl (by rw [cl]) ?_
    clear cl
    refine any_norm (by go_simp; all_goals exact rfl) ?_
    (refine wpAny_take (i := 10) (v := ?_) rfl (by kernel_rfl) (by kernel_rfl) (by kernel_rfl) (fun _ _ _ h => h) (Or.inl ⟨by rfl, ?_⟩) ?_; rotate_left; (· (intro w; go_simp; all_goals (with_reducible rfl))); refine any_norm (by go_simp; all_goals exact rfl) ?_)
    refine any1 11 (by kernel_rfl) ?_
    rename World => wb
    refine op_buildOneA rfl (by rfl) 49 153 _ rfl [.slice va n vcap, .slice none 0 0, .int .i64 ((N : Int) + 1)] rfl Tryz.underlying49 held_size held_zero (by simp) (by simp) ?_
    have hb4 := blk_alloc wb (.cells #[.slice va n vcap, .slice none 0 0, .int .i64 ((N : Int) + 1)] 153)
    have HN4 := Lib.hid (fun (j : Nat) (u : Value) (hu : ([.slice va n vcap, .slice none 0 0, .int .i64 ((N : Int) + 1)] : List Value)[j]? = some u) => show World.cell? _ ((⟨wb.heap.size, 0, none⟩ : Addr).add j) = some u from by rw [show (⟨wb.heap.size, 0, none⟩ : Addr).add j = ⟨wb.heap.size, j, none⟩ from by unfold Addr.add; split <;> simp_all, cell_of_blk hb4]; simpa using hu)
    have hal := (Upd.refl none' wb).alloc (.cells #[.slice va n vcap, .slice none 0 0, .int .i64 ((N : Int) + 1)] 153)
    replace HH := Lib.hid (HH.out.ext hal)
    replace HV := Lib.hid (ownsRow_upd HV.out hal (fun _ _ e => e))
    replace HBK := Lib.hid (Ext.blk hal HBK.out)
    replace HU := Lib.hid (HU.out.thenExt hal)
    replace HSZ := Lib.hid (Nat.le_trans HSZ.out hal.size)
    clear hb4 hal
    refine any_norm (by go_simp; all_goals exact rfl) ?_
    refine any1 12 (by kernel_rfl) ?_
    refine op_app1 rfl (by rfl) (.tmp 15) (.tmp 22) 49 rfl B 153 j0 _ 3 56 Tryz.underlying49 hj0 hjz0 hjz1 hjz2 rfl (by decide) tv _ _ rfl HH.out.row ⟨wb.heap.size, 0, none⟩ 1 1 [.slice va n vcap, .slice none 0 0, .int .i64 ((N : Int) + 1)] rfl rfl HN4.out HONE.out HM.out.1 HM.out.2 HSZ.out ?_
    intro tv' w7 ho hg _
    have hk := HH.out.keep HV.out HSEP.out (num := N + 1) ho hg
    have hbk := (Upd.refl (fun g => tv.ownBlock = some g) _).grown hg (fun g hg => .inr hg)
    have HBK7 := Lib.hid (hbk.blk HBK.out HBT.out)
    have HU7 := Lib.hid (HU.out.grown hg (fun g hg => .inr (.inr hg)))
    have HK7 := Lib.hid hk
    have HO7 := Lib.hid (own_one hk.row)
    have HC7 := Lib.hid (own_cells hk.row)
    clear ho hg hk hbk
    refine any_norm (by go_simp; all_goals exact rfl) ?_
    (refine wpAny_take (i := 13) (v := ?_) rfl (by kernel_rfl) (by kernel_rfl) (by kernel_rfl) (fun _ _ _ h => h) (Or.inl ⟨by rfl, ?_⟩) ?_; rotate_left; (· (intro w; go_simp; all_goals (with_reducible rfl))); refine any_norm (by go_simp; all_goals exact rfl) ?_)
    (refine wpAny_take (i := 14) (v := ?_) rfl (by kernel_rfl) (by kernel_rfl) (by kernel_rfl) (fun _ _ _ h => h) (Or.inl ⟨by rfl, ?_⟩) ?_; rotate_left; (· (intro w; go_simp; all_goals (with_reducible rfl))); refine any_norm (by go_simp; all_goals exact rfl) ?_)
    refine any1 15 (by kernel_rfl) ?_
    have c3 := (cell_of_blk HBK7.out 3).trans HC3.out
    have f3 := free_of_blk HBK7.out 3
    refine op_store1 rfl (by rfl) 49 _ _ rfl ⟨b, 3, none⟩ rfl tv' rfl HC7.out HO7.out size_helds tv (by rw [c3]) f3 ?_
    clear c3 f3
    refine any_norm (by go_simp; all_goals exact rfl) ?_
    refine wpAny_done (by kernel_rfl) ?_ _
    go_wp2_with fail
    go_end0
    exact ⟨rfl, tv', HK7.out.store HBK7.out 3 tv', blk_set HBK7.out 3 tv', HU7.out.setCell (p := ⟨b, 3, none⟩) (.inr (.inl rfl)) tv'⟩
  · have cl := (cell_of_blk HBK.out 0).trans HC0.out
    refine op_load1 rfl (by rfl) rfl ⟨b, 0, none⟩ (.int .i64 ((N : Int) + 1)) rfl Tryz.underlying3 rfl (by rw [cl]) ?_
    clear cl
    refine any_norm (by go_simp; all_goals exact rfl) ?_
    (refine wpAny_take (i := 10) (v := ?_) rfl (by kernel_rfl) (by kernel_rfl) (by kernel_rfl) (fun _ _ _ h => h) (Or.inl ⟨by rfl, ?_⟩) ?_; rotate_left; (· (intro w; go_simp; all_goals (with_reducible rfl))); refine any_norm (by go_simp; all_goals exact rfl) ?_)
    refine any2 4 11 (by kernel_rfl) ?_ ?_
    · have cl := (cell_of_blk HBK.out 3).trans HC3.out
      refine op_load1 rfl (by rfl) rfl ⟨b, 3, none⟩ tv rfl Tryz.underlying49 rfl (by rw [cl]) ?_
      clear cl
      refine any_norm (by go_simp; all_goals exact rfl) ?_
      refine any1 11 (by kernel_rfl) ?_
      rename World => wb
      refine op_buildOneA rfl (by rfl) 49 153 _ rfl [.slice va n vcap, .slice none 0 0, .int .i64 ((N : Int) + 1)] rfl Tryz.underlying49 held_size held_zero (by simp) (by simp) ?_
      have hb4 := blk_alloc wb (.cells #[.slice va n vcap, .slice none 0 0, .int .i64 ((N : Int) + 1)] 153)
      have HN4 := Lib.hid (fun (j : Nat) (u : Value) (hu : ([.slice va n vcap, .slice none 0 0, .int .i64 ((N : Int) + 1)] : List Value)[j]? = some u) => show World.cell? _ ((⟨wb.heap.size, 0, none⟩ : Addr).add j) = some u from by rw [show (⟨wb.heap.size, 0, none⟩ : Addr).add j = ⟨wb.heap.size, j, none⟩ from by unfold Addr.add; split <;> simp_all, cell_of_blk hb4]; simpa using hu)
      have hal := (Upd.refl none' wb).alloc (.cells #[.slice va n vcap, .slice none 0 0, .int .i64 ((N : Int) + 1)] 153)
      replace HH := Lib.hid (HH.out.ext hal)
      replace HV := Lib.hid (ownsRow_upd HV.out hal (fun _ _ e => e))
      replace HBK := Lib.hid (Ext.blk hal HBK.out)
      replace HU := Lib.hid (HU.out.thenExt hal)
      replace HSZ := Lib.hid (Nat.le_trans HSZ.out hal.size)
      clear hb4 hal
      refine any_norm (by go_simp; all_goals exact rfl) ?_
      refine any1 12 (by kernel_rfl) ?_
      refine op_app1 rfl (by rfl) (.tmp 15) (.tmp 22) 49 rfl B 153 j0 _ 3 56 Tryz.underlying49 hj0 hjz0 hjz1 hjz2 rfl (by decide) tv _ _ rfl HH.out.row ⟨wb.heap.size, 0, none⟩ 1 1 [.slice va n vcap, .slice none 0 0, .int .i64 ((N : Int) + 1)] rfl rfl HN4.out HONE.out HM.out.1 HM.out.2 HSZ.out ?_
      intro tv' w7 ho hg _
      have hk := HH.out.keep HV.out HSEP.out (num := N + 1) ho hg
      have hbk := (Upd.refl (fun g => tv.ownBlock = some g) _).grown hg (fun g hg => .inr hg)
      have HBK7 := Lib.hid (hbk.blk HBK.out HBT.out)
      have HU7 := Lib.hid (HU.out.grown hg (fun g hg => .inr (.inr hg)))
      have HK7 := Lib.hid hk
      have HO7 := Lib.hid (own_one hk.row)
      have HC7 := Lib.hid (own_cells hk.row)
      clear ho hg hk hbk
      refine any_norm (by go_simp; all_goals exact rfl) ?_
      (refine wpAny_take (i := 13) (v := ?_) rfl (by kernel_rfl) (by kernel_rfl) (by kernel_rfl) (fun _ _ _ h => h) (Or.inl ⟨by rfl, ?_⟩) ?_; rotate_left; (· (intro w; go_simp; all_goals (with_reducible rfl))); refine any_norm (by go_simp; all_goals exact rfl) ?_)
      (refine wpAny_take (i := 14) (v := ?_) rfl (by kernel_rfl) (by kernel_rfl) (by kernel_rfl) (fun _ _ _ h => h) (Or.inl ⟨by rfl, ?_⟩) ?_; rotate_left; (· (intro w; go_simp; all_goals (with_reducible rfl))); refine any_norm (by go_simp; all_goals exact rfl) ?_)
      refine any1 15 (by kernel_rfl) ?_
      have c3 := (cell_of_blk HBK7.out 3).trans HC3.out
      have f3 := free_of_blk HBK7.out 3
      refine op_store1 rfl (by rfl) 49 _ _ rfl ⟨b, 3, none⟩ rfl tv' rfl HC7.out HO7.out size_helds tv (by rw [c3]) f3 ?_
      clear c3 f3
      refine any_norm (by go_simp; all_goals exact rfl) ?_
      refine wpAny_done (by kernel_rfl) ?_ _
      go_wp2_with fail
      go_end0
      exact ⟨rfl, tv', HK7.out.store HBK7.out 3 tv', blk_set HBK7.out 3 tv', HU7.out.setCell (p := ⟨b, 3, none⟩) (.inr (.inl rfl)) tv'⟩
    · rename World => wb
      refine op_buildOneA rfl (by rfl) 49 153 _ rfl [.slice va n vcap, .slice none 0 0, .int .i64 ((N : Int) + 1)] rfl Tryz.underlying49 held_size held_zero (by simp) (by simp) ?_
      have hb4 := blk_alloc wb (.cells #[.slice va n vcap, .slice none 0 0, .int .i64 ((N : Int) + 1)] 153)
      have HN4 := Lib.hid (fun (j : Nat) (u : Value) (hu : ([.slice va n vcap, .slice none 0 0, .int .i64 ((N : Int) + 1)] : List Value)[j]? = some u) => show World.cell? _ ((⟨wb.heap.size, 0, none⟩ : Addr).add j) = some u from by rw [show (⟨wb.heap.size, 0, none⟩ : Addr).add j = ⟨wb.heap.size, j, none⟩ from by unfold Addr.add; split <;> simp_all, cell_of_blk hb4]; simpa using hu)
      have hal := (Upd.refl none' wb).alloc (.cells #[.slice va n vcap, .slice none 0 0, .int .i64 ((N : Int) + 1)] 153)
      replace HH := Lib.hid (HH.out.ext hal)
      replace HV := Lib.hid (ownsRow_upd HV.out hal (fun _ _ e => e))
      replace HBK := Lib.hid (Ext.blk hal HBK.out)
      replace HU := Lib.hid (HU.out.thenExt hal)
      replace HSZ := Lib.hid (Nat.le_trans HSZ.out hal.size)
      clear hb4 hal
      refine any_norm (by go_simp; all_goals exact rfl) ?_
      refine any1 4 (by kernel_rfl) ?_
      have cl := (cell_of_blk HBK.out 3).trans HC3.out
      refine op_load1 rfl (by rfl) rfl ⟨b, 3, none⟩ tv rfl Tryz.underlying49 rfl (by rw [cl]) ?_
      clear cl
      refine any_norm (by go_simp; all_goals exact rfl) ?_
      refine any1 12 (by kernel_rfl) ?_
      refine op_app1 rfl (by rfl) (.tmp 15) (.tmp 22) 49 rfl B 153 j0 _ 3 56 Tryz.underlying49 hj0 hjz0 hjz1 hjz2 rfl (by decide) tv _ _ rfl HH.out.row ⟨wb.heap.size, 0, none⟩ 1 1 [.slice va n vcap, .slice none 0 0, .int .i64 ((N : Int) + 1)] rfl rfl HN4.out HONE.out HM.out.1 HM.out.2 HSZ.out ?_
      intro tv' w7 ho hg _
      have hk := HH.out.keep HV.out HSEP.out (num := N + 1) ho hg
      have hbk := (Upd.refl (fun g => tv.ownBlock = some g) _).grown hg (fun g hg => .inr hg)
      have HBK7 := Lib.hid (hbk.blk HBK.out HBT.out)
      have HU7 := Lib.hid (HU.out.grown hg (fun g hg => .inr (.inr hg)))
      have HK7 := Lib.hid hk
      have HO7 := Lib.hid (own_one hk.row)
      have HC7 := Lib.hid (own_cells hk.row)
      clear ho hg hk hbk
      refine any_norm (by go_simp; all_goals exact rfl) ?_
      (refine wpAny_take (i := 13) (v := ?_) rfl (by kernel_rfl) (by kernel_rfl) (by kernel_rfl) (fun _ _ _ h => h) (Or.inl ⟨by rfl, ?_⟩) ?_; rotate_left; (· (intro w; go_simp; all_goals (with_reducible rfl))); refine any_norm (by go_simp; all_goals exact rfl) ?_)
      (refine wpAny_take (i := 14) (v := ?_) rfl (by kernel_rfl) (by kernel_rfl) (by kernel_rfl) (fun _ _ _ h => h) (Or.inl ⟨by rfl, ?_⟩) ?_; rotate_left; (· (intro w; go_simp; all_goals (with_reducible rfl))); refine any_norm (by go_simp; all_goals exact rfl) ?_)
      refine any1 15 (by kernel_rfl) ?_
      have c3 := (cell_of_blk HBK7.out 3).trans HC3.out
      have f3 := free_of_blk HBK7.out 3
      refine op_store1 rfl (by rfl) 49 _ _ rfl ⟨b, 3, none⟩ rfl tv' rfl HC7.out HO7.out size_helds tv (by rw [c3]) f3 ?_
      clear c3 f3
      refine any_norm (by go_simp; all_goals exact rfl) ?_
      refine wpAny_done (by kernel_rfl) ?_ _
      go_wp2_with fail
      go_end0
      exact ⟨rfl, tv', HK7.out.store HBK7.out 3 tv', blk_set HBK7.out 3 tv', HU7.out.setCell (p := ⟨b, 3, none⟩) (.inr (.inl rfl)) tv'⟩

theorem fillInt_no {b : Nat} {W : World} (hb : W.cell? ⟨b, 1, none⟩ = some (.slice none 0 0)) : Calls Tryz.prog 57 #[.pointer (some ⟨b, 0, none⟩)] W fun e W' => e = .returned (.tuple #[]) ∧ W = W' := by
  go_enter Tryz.func57, Tryz.ntmps57
  go_wp2_with fail
  go_loopw [2] (fun iv wr => iv = .int .i64 (0 : Nat) ∧ W = wr) (fun _ _ => 0)
  case atStart => exact ⟨rfl, rfl⟩
  case round =>
    obtain ⟨rfl, rfl⟩ := hrel
    go_wp2_with fail
    go_end0
    exact ⟨rfl, rfl⟩
theorem growInt_no {b : Nat} {W : World} (hb : W.cell? ⟨b, 1, none⟩ = some (.slice none 0 0)) : Calls Tryz.prog 73 #[.pointer (some ⟨b, 0, none⟩)] W fun e W' => e = .returned (.tuple #[]) ∧ W = W' := by
  go_enter Tryz.func73, Tryz.ntmps73
  go_wp2_with fail
  go_loopw [2] (fun iv wr => iv = .int .i64 (0 : Nat) ∧ W = wr) (fun _ _ => 0)
  case atStart => exact ⟨rfl, rfl⟩
  case round =>
    obtain ⟨rfl, rfl⟩ := hrel
    go_wp2_with fail
    go_end0
    exact ⟨rfl, rfl⟩
theorem lookInt_no {b : Nat} {W : World} (hb : W.cell? ⟨b, 1, none⟩ = some (.slice none 0 0)) : Calls Tryz.prog 89 #[.pointer (some ⟨b, 0, none⟩)] W fun e W' => e = .returned (.bool true) ∧ W = W' := by
  go_enter Tryz.func89, Tryz.ntmps89
  go_wp2_with fail
  go_loopw [3] (fun iv wr => iv = .int .i64 (0 : Nat) ∧ W = wr) (fun _ _ => 0)
  case atStart => exact ⟨rfl, rfl⟩
  case round =>
    obtain ⟨rfl, rfl⟩ := hrel
    go_wp2_with fail
    go_ret
    exact ⟨rfl, rfl⟩
theorem fillByte_no {b : Nat} {W : World} (hb : W.cell? ⟨b, 2, none⟩ = some (.slice none 0 0)) : Calls Tryz.prog 58 #[.pointer (some ⟨b, 0, none⟩)] W fun e W' => e = .returned (.tuple #[]) ∧ W = W' := by
  go_enter Tryz.func58, Tryz.ntmps58
  go_wp2_with fail
  go_loopw [2] (fun iv wr => iv = .int .i64 (0 : Nat) ∧ W = wr) (fun _ _ => 0)
  case atStart => exact ⟨rfl, rfl⟩
  case round =>
    obtain ⟨rfl, rfl⟩ := hrel
    go_wp2_with fail
    go_end0
    exact ⟨rfl, rfl⟩
theorem growByte_no {b : Nat} {W : World} (hb : W.cell? ⟨b, 2, none⟩ = some (.slice none 0 0)) : Calls Tryz.prog 74 #[.pointer (some ⟨b, 0, none⟩)] W fun e W' => e = .returned (.tuple #[]) ∧ W = W' := by
  go_enter Tryz.func74, Tryz.ntmps74
  go_wp2_with fail
  go_loopw [2] (fun iv wr => iv = .int .i64 (0 : Nat) ∧ W = wr) (fun _ _ => 0)
  case atStart => exact ⟨rfl, rfl⟩
  case round =>
    obtain ⟨rfl, rfl⟩ := hrel
    go_wp2_with fail
    go_end0
    exact ⟨rfl, rfl⟩
theorem lookByte_no {b : Nat} {W : World} (hb : W.cell? ⟨b, 2, none⟩ = some (.slice none 0 0)) : Calls Tryz.prog 90 #[.pointer (some ⟨b, 0, none⟩)] W fun e W' => e = .returned (.bool true) ∧ W = W' := by
  go_enter Tryz.func90, Tryz.ntmps90
  go_wp2_with fail
  go_loopw [3] (fun iv wr => iv = .int .i64 (0 : Nat) ∧ W = wr) (fun _ _ => 0)
  case atStart => exact ⟨rfl, rfl⟩
  case round =>
    obtain ⟨rfl, rfl⟩ := hrel
    go_wp2_with fail
    go_ret
    exact ⟨rfl, rfl⟩
theorem fillText_no {b : Nat} {W : World} (hb : W.cell? ⟨b, 3, none⟩ = some (.slice none 0 0)) : Calls Tryz.prog 59 #[.pointer (some ⟨b, 0, none⟩)] W fun e W' => e = .returned (.tuple #[]) ∧ W = W' := by
  go_enter Tryz.func59, Tryz.ntmps59
  go_wp2_with fail
  go_loopw [2] (fun iv wr => iv = .int .i64 (0 : Nat) ∧ W = wr) (fun _ _ => 0)
  case atStart => exact ⟨rfl, rfl⟩
  case round =>
    obtain ⟨rfl, rfl⟩ := hrel
    go_wp2_with fail
    go_end0
    exact ⟨rfl, rfl⟩
theorem growText_no {b : Nat} {W : World} (hb : W.cell? ⟨b, 3, none⟩ = some (.slice none 0 0)) : Calls Tryz.prog 75 #[.pointer (some ⟨b, 0, none⟩)] W fun e W' => e = .returned (.tuple #[]) ∧ W = W' := by
  go_enter Tryz.func75, Tryz.ntmps75
  go_wp2_with fail
  go_loopw [2] (fun iv wr => iv = .int .i64 (0 : Nat) ∧ W = wr) (fun _ _ => 0)
  case atStart => exact ⟨rfl, rfl⟩
  case round =>
    obtain ⟨rfl, rfl⟩ := hrel
    go_wp2_with fail
    go_end0
    exact ⟨rfl, rfl⟩
theorem lookText_no {b : Nat} {W : World} (hb : W.cell? ⟨b, 3, none⟩ = some (.slice none 0 0)) : Calls Tryz.prog 91 #[.pointer (some ⟨b, 0, none⟩)] W fun e W' => e = .returned (.bool true) ∧ W = W' := by
  go_enter Tryz.func91, Tryz.ntmps91
  go_wp2_with fail
  go_loopw [3] (fun iv wr => iv = .int .i64 (0 : Nat) ∧ W = wr) (fun _ _ => 0)
  case atStart => exact ⟨rfl, rfl⟩
  case round =>
    obtain ⟨rfl, rfl⟩ := hrel
    go_wp2_with fail
    go_ret
    exact ⟨rfl, rfl⟩
theorem fillNumber_no {b : Nat} {W : World} (hb : W.cell? ⟨b, 4, none⟩ = some (.slice none 0 0)) : Calls Tryz.prog 60 #[.pointer (some ⟨b, 0, none⟩)] W fun e W' => e = .returned (.tuple #[]) ∧ W = W' := by
  go_enter Tryz.func60, Tryz.ntmps60
  go_wp2_with fail
  go_loopw [2] (fun iv wr => iv = .int .i64 (0 : Nat) ∧ W = wr) (fun _ _ => 0)
  case atStart => exact ⟨rfl, rfl⟩
  case round =>
    obtain ⟨rfl, rfl⟩ := hrel
    go_wp2_with fail
    go_end0
    exact ⟨rfl, rfl⟩
theorem growNumber_no {b : Nat} {W : World} (hb : W.cell? ⟨b, 4, none⟩ = some (.slice none 0 0)) : Calls Tryz.prog 76 #[.pointer (some ⟨b, 0, none⟩)] W fun e W' => e = .returned (.tuple #[]) ∧ W = W' := by
  go_enter Tryz.func76, Tryz.ntmps76
  go_wp2_with fail
  go_loopw [2] (fun iv wr => iv = .int .i64 (0 : Nat) ∧ W = wr) (fun _ _ => 0)
  case atStart => exact ⟨rfl, rfl⟩
  case round =>
    obtain ⟨rfl, rfl⟩ := hrel
    go_wp2_with fail
    go_end0
    exact ⟨rfl, rfl⟩
theorem lookNumber_no {b : Nat} {W : World} (hb : W.cell? ⟨b, 4, none⟩ = some (.slice none 0 0)) : Calls Tryz.prog 92 #[.pointer (some ⟨b, 0, none⟩)] W fun e W' => e = .returned (.bool true) ∧ W = W' := by
  go_enter Tryz.func92, Tryz.ntmps92
  go_wp2_with fail
  go_loopw [3] (fun iv wr => iv = .int .i64 (0 : Nat) ∧ W = wr) (fun _ _ => 0)
  case atStart => exact ⟨rfl, rfl⟩
  case round =>
    obtain ⟨rfl, rfl⟩ := hrel
    go_wp2_with fail
    go_ret
    exact ⟨rfl, rfl⟩
theorem fillHash_no {b : Nat} {W : World} (hb : W.cell? ⟨b, 5, none⟩ = some (.slice none 0 0)) : Calls Tryz.prog 61 #[.pointer (some ⟨b, 0, none⟩)] W fun e W' => e = .returned (.tuple #[]) ∧ W = W' := by
  go_enter Tryz.func61, Tryz.ntmps61
  go_wp2_with fail
  go_loopw [2] (fun iv wr => iv = .int .i64 (0 : Nat) ∧ W = wr) (fun _ _ => 0)
  case atStart => exact ⟨rfl, rfl⟩
  case round =>
    obtain ⟨rfl, rfl⟩ := hrel
    go_wp2_with fail
    go_end0
    exact ⟨rfl, rfl⟩
theorem growHash_no {b : Nat} {W : World} (hb : W.cell? ⟨b, 5, none⟩ = some (.slice none 0 0)) : Calls Tryz.prog 77 #[.pointer (some ⟨b, 0, none⟩)] W fun e W' => e = .returned (.tuple #[]) ∧ W = W' := by
  go_enter Tryz.func77, Tryz.ntmps77
  go_wp2_with fail
  go_loopw [2] (fun iv wr => iv = .int .i64 (0 : Nat) ∧ W = wr) (fun _ _ => 0)
  case atStart => exact ⟨rfl, rfl⟩
  case round =>
    obtain ⟨rfl, rfl⟩ := hrel
    go_wp2_with fail
    go_end0
    exact ⟨rfl, rfl⟩
theorem lookHash_no {b : Nat} {W : World} (hb : W.cell? ⟨b, 5, none⟩ = some (.slice none 0 0)) : Calls Tryz.prog 93 #[.pointer (some ⟨b, 0, none⟩)] W fun e W' => e = .returned (.bool true) ∧ W = W' := by
  go_enter Tryz.func93, Tryz.ntmps93
  go_wp2_with fail
  go_loopw [3] (fun iv wr => iv = .int .i64 (0 : Nat) ∧ W = wr) (fun _ _ => 0)
  case atStart => exact ⟨rfl, rfl⟩
  case round =>
    obtain ⟨rfl, rfl⟩ := hrel
    go_wp2_with fail
    go_ret
    exact ⟨rfl, rfl⟩
theorem fillCoord_no {b : Nat} {W : World} (hb : W.cell? ⟨b, 6, none⟩ = some (.slice none 0 0)) : Calls Tryz.prog 62 #[.pointer (some ⟨b, 0, none⟩)] W fun e W' => e = .returned (.tuple #[]) ∧ W = W' := by
  go_enter Tryz.func62, Tryz.ntmps62
  go_wp2_with fail
  go_loopw [2] (fun iv wr => iv = .int .i64 (0 : Nat) ∧ W = wr) (fun _ _ => 0)
  case atStart => exact ⟨rfl, rfl⟩
  case round =>
    obtain ⟨rfl, rfl⟩ := hrel
    go_wp2_with fail
    go_end0
    exact ⟨rfl, rfl⟩
theorem growCoord_no {b : Nat} {W : World} (hb : W.cell? ⟨b, 6, none⟩ = some (.slice none 0 0)) : Calls Tryz.prog 78 #[.pointer (some ⟨b, 0, none⟩)] W fun e W' => e = .returned (.tuple #[]) ∧ W = W' := by
  go_enter Tryz.func78, Tryz.ntmps78
  go_wp2_with fail
  go_loopw [2] (fun iv wr => iv = .int .i64 (0 : Nat) ∧ W = wr) (fun _ _ => 0)
  case atStart => exact ⟨rfl, rfl⟩
  case round =>
    obtain ⟨rfl, rfl⟩ := hrel
    go_wp2_with fail
    go_end0
    exact ⟨rfl, rfl⟩
theorem lookCoord_no {b : Nat} {W : World} (hb : W.cell? ⟨b, 6, none⟩ = some (.slice none 0 0)) : Calls Tryz.prog 94 #[.pointer (some ⟨b, 0, none⟩)] W fun e W' => e = .returned (.bool true) ∧ W = W' := by
  go_enter Tryz.func94, Tryz.ntmps94
  go_wp2_with fail
  go_loopw [3] (fun iv wr => iv = .int .i64 (0 : Nat) ∧ W = wr) (fun _ _ => 0)
  case atStart => exact ⟨rfl, rfl⟩
  case round =>
    obtain ⟨rfl, rfl⟩ := hrel
    go_wp2_with fail
    go_ret
    exact ⟨rfl, rfl⟩
theorem fillSpan_no {b : Nat} {W : World} (hb : W.cell? ⟨b, 7, none⟩ = some (.slice none 0 0)) : Calls Tryz.prog 63 #[.pointer (some ⟨b, 0, none⟩)] W fun e W' => e = .returned (.tuple #[]) ∧ W = W' := by
  go_enter Tryz.func63, Tryz.ntmps63
  go_wp2_with fail
  go_loopw [2] (fun iv wr => iv = .int .i64 (0 : Nat) ∧ W = wr) (fun _ _ => 0)
  case atStart => exact ⟨rfl, rfl⟩
  case round =>
    obtain ⟨rfl, rfl⟩ := hrel
    go_wp2_with fail
    go_end0
    exact ⟨rfl, rfl⟩
theorem growSpan_no {b : Nat} {W : World} (hb : W.cell? ⟨b, 7, none⟩ = some (.slice none 0 0)) : Calls Tryz.prog 79 #[.pointer (some ⟨b, 0, none⟩)] W fun e W' => e = .returned (.tuple #[]) ∧ W = W' := by
  go_enter Tryz.func79, Tryz.ntmps79
  go_wp2_with fail
  go_loopw [2] (fun iv wr => iv = .int .i64 (0 : Nat) ∧ W = wr) (fun _ _ => 0)
  case atStart => exact ⟨rfl, rfl⟩
  case round =>
    obtain ⟨rfl, rfl⟩ := hrel
    go_wp2_with fail
    go_end0
    exact ⟨rfl, rfl⟩
theorem lookSpan_no {b : Nat} {W : World} (hb : W.cell? ⟨b, 7, none⟩ = some (.slice none 0 0)) : Calls Tryz.prog 95 #[.pointer (some ⟨b, 0, none⟩)] W fun e W' => e = .returned (.bool true) ∧ W = W' := by
  go_enter Tryz.func95, Tryz.ntmps95
  go_wp2_with fail
  go_loopw [3] (fun iv wr => iv = .int .i64 (0 : Nat) ∧ W = wr) (fun _ _ => 0)
  case atStart => exact ⟨rfl, rfl⟩
  case round =>
    obtain ⟨rfl, rfl⟩ := hrel
    go_wp2_with fail
    go_ret
    exact ⟨rfl, rfl⟩
theorem fillNode_no {b : Nat} {W : World} (hb : W.cell? ⟨b, 8, none⟩ = some (.slice none 0 0)) : Calls Tryz.prog 64 #[.pointer (some ⟨b, 0, none⟩)] W fun e W' => e = .returned (.tuple #[]) ∧ W = W' := by
  go_enter Tryz.func64, Tryz.ntmps64
  go_wp2_with fail
  go_loopw [2] (fun iv wr => iv = .int .i64 (0 : Nat) ∧ W = wr) (fun _ _ => 0)
  case atStart => exact ⟨rfl, rfl⟩
  case round =>
    obtain ⟨rfl, rfl⟩ := hrel
    go_wp2_with fail
    go_end0
    exact ⟨rfl, rfl⟩
theorem growNode_no {b : Nat} {W : World} (hb : W.cell? ⟨b, 8, none⟩ = some (.slice none 0 0)) : Calls Tryz.prog 80 #[.pointer (some ⟨b, 0, none⟩)] W fun e W' => e = .returned (.tuple #[]) ∧ W = W' := by
  go_enter Tryz.func80, Tryz.ntmps80
  go_wp2_with fail
  go_loopw [2] (fun iv wr => iv = .int .i64 (0 : Nat) ∧ W = wr) (fun _ _ => 0)
  case atStart => exact ⟨rfl, rfl⟩
  case round =>
    obtain ⟨rfl, rfl⟩ := hrel
    go_wp2_with fail
    go_end0
    exact ⟨rfl, rfl⟩
theorem lookNode_no {b : Nat} {W : World} (hb : W.cell? ⟨b, 8, none⟩ = some (.slice none 0 0)) : Calls Tryz.prog 96 #[.pointer (some ⟨b, 0, none⟩)] W fun e W' => e = .returned (.bool true) ∧ W = W' := by
  go_enter Tryz.func96, Tryz.ntmps96
  go_wp2_with fail
  go_loopw [3] (fun iv wr => iv = .int .i64 (0 : Nat) ∧ W = wr) (fun _ _ => 0)
  case atStart => exact ⟨rfl, rfl⟩
  case round =>
    obtain ⟨rfl, rfl⟩ := hrel
    go_wp2_with fail
    go_ret
    exact ⟨rfl, rfl⟩
theorem fillTile_no {b : Nat} {W : World} (hb : W.cell? ⟨b, 9, none⟩ = some (.slice none 0 0)) : Calls Tryz.prog 65 #[.pointer (some ⟨b, 0, none⟩)] W fun e W' => e = .returned (.tuple #[]) ∧ W = W' := by
  go_enter Tryz.func65, Tryz.ntmps65
  go_wp2_with fail
  go_loopw [2] (fun iv wr => iv = .int .i64 (0 : Nat) ∧ W = wr) (fun _ _ => 0)
  case atStart => exact ⟨rfl, rfl⟩
  case round =>
    obtain ⟨rfl, rfl⟩ := hrel
    go_wp2_with fail
    go_end0
    exact ⟨rfl, rfl⟩
theorem growTile_no {b : Nat} {W : World} (hb : W.cell? ⟨b, 9, none⟩ = some (.slice none 0 0)) : Calls Tryz.prog 81 #[.pointer (some ⟨b, 0, none⟩)] W fun e W' => e = .returned (.tuple #[]) ∧ W = W' := by
  go_enter Tryz.func81, Tryz.ntmps81
  go_wp2_with fail
  go_loopw [2] (fun iv wr => iv = .int .i64 (0 : Nat) ∧ W = wr) (fun _ _ => 0)
  case atStart => exact ⟨rfl, rfl⟩
  case round =>
    obtain ⟨rfl, rfl⟩ := hrel
    go_wp2_with fail
    go_end0
    exact ⟨rfl, rfl⟩
theorem lookTile_no {b : Nat} {W : World} (hb : W.cell? ⟨b, 9, none⟩ = some (.slice none 0 0)) : Calls Tryz.prog 97 #[.pointer (some ⟨b, 0, none⟩)] W fun e W' => e = .returned (.bool true) ∧ W = W' := by
  go_enter Tryz.func97, Tryz.ntmps97
  go_wp2_with fail
  go_loopw [3] (fun iv wr => iv = .int .i64 (0 : Nat) ∧ W = wr) (fun _ _ => 0)
  case atStart => exact ⟨rfl, rfl⟩
  case round =>
    obtain ⟨rfl, rfl⟩ := hrel
    go_wp2_with fail
    go_ret
    exact ⟨rfl, rfl⟩
theorem fillEntry_no {b : Nat} {W : World} (hb : W.cell? ⟨b, 10, none⟩ = some (.slice none 0 0)) : Calls Tryz.prog 66 #[.pointer (some ⟨b, 0, none⟩)] W fun e W' => e = .returned (.tuple #[]) ∧ W = W' := by
  go_enter Tryz.func66, Tryz.ntmps66
  go_wp2_with fail
  go_loopw [2] (fun iv wr => iv = .int .i64 (0 : Nat) ∧ W = wr) (fun _ _ => 0)
  case atStart => exact ⟨rfl, rfl⟩
  case round =>
    obtain ⟨rfl, rfl⟩ := hrel
    go_wp2_with fail
    go_end0
    exact ⟨rfl, rfl⟩
theorem growEntry_no {b : Nat} {W : World} (hb : W.cell? ⟨b, 10, none⟩ = some (.slice none 0 0)) : Calls Tryz.prog 82 #[.pointer (some ⟨b, 0, none⟩)] W fun e W' => e = .returned (.tuple #[]) ∧ W = W' := by
  go_enter Tryz.func82, Tryz.ntmps82
  go_wp2_with fail
  go_loopw [2] (fun iv wr => iv = .int .i64 (0 : Nat) ∧ W = wr) (fun _ _ => 0)
  case atStart => exact ⟨rfl, rfl⟩
  case round =>
    obtain ⟨rfl, rfl⟩ := hrel
    go_wp2_with fail
    go_end0
    exact ⟨rfl, rfl⟩
theorem lookEntry_no {b : Nat} {W : World} (hb : W.cell? ⟨b, 10, none⟩ = some (.slice none 0 0)) : Calls Tryz.prog 98 #[.pointer (some ⟨b, 0, none⟩)] W fun e W' => e = .returned (.bool true) ∧ W = W' := by
  go_enter Tryz.func98, Tryz.ntmps98
  go_wp2_with fail
  go_loopw [3] (fun iv wr => iv = .int .i64 (0 : Nat) ∧ W = wr) (fun _ _ => 0)
  case atStart => exact ⟨rfl, rfl⟩
  case round =>
    obtain ⟨rfl, rfl⟩ := hrel
    go_wp2_with fail
    go_ret
    exact ⟨rfl, rfl⟩
theorem fillFound_no {b : Nat} {W : World} (hb : W.cell? ⟨b, 11, none⟩ = some (.slice none 0 0)) : Calls Tryz.prog 67 #[.pointer (some ⟨b, 0, none⟩)] W fun e W' => e = .returned (.tuple #[]) ∧ W = W' := by
  go_enter Tryz.func67, Tryz.ntmps67
  go_wp2_with fail
  go_loopw [2] (fun iv wr => iv = .int .i64 (0 : Nat) ∧ W = wr) (fun _ _ => 0)
  case atStart => exact ⟨rfl, rfl⟩
  case round =>
    obtain ⟨rfl, rfl⟩ := hrel
    go_wp2_with fail
    go_end0
    exact ⟨rfl, rfl⟩
theorem growFound_no {b : Nat} {W : World} (hb : W.cell? ⟨b, 11, none⟩ = some (.slice none 0 0)) : Calls Tryz.prog 83 #[.pointer (some ⟨b, 0, none⟩)] W fun e W' => e = .returned (.tuple #[]) ∧ W = W' := by
  go_enter Tryz.func83, Tryz.ntmps83
  go_wp2_with fail
  go_loopw [2] (fun iv wr => iv = .int .i64 (0 : Nat) ∧ W = wr) (fun _ _ => 0)
  case atStart => exact ⟨rfl, rfl⟩
  case round =>
    obtain ⟨rfl, rfl⟩ := hrel
    go_wp2_with fail
    go_end0
    exact ⟨rfl, rfl⟩
theorem lookFound_no {b : Nat} {W : World} (hb : W.cell? ⟨b, 11, none⟩ = some (.slice none 0 0)) : Calls Tryz.prog 99 #[.pointer (some ⟨b, 0, none⟩)] W fun e W' => e = .returned (.bool true) ∧ W = W' := by
  go_enter Tryz.func99, Tryz.ntmps99
  go_wp2_with fail
  go_loopw [3] (fun iv wr => iv = .int .i64 (0 : Nat) ∧ W = wr) (fun _ _ => 0)
  case atStart => exact ⟨rfl, rfl⟩
  case round =>
    obtain ⟨rfl, rfl⟩ := hrel
    go_wp2_with fail
    go_ret
    exact ⟨rfl, rfl⟩
theorem fillKnown_no {b : Nat} {W : World} (hb : W.cell? ⟨b, 12, none⟩ = some (.slice none 0 0)) : Calls Tryz.prog 68 #[.pointer (some ⟨b, 0, none⟩)] W fun e W' => e = .returned (.tuple #[]) ∧ W = W' := by
  go_enter Tryz.func68, Tryz.ntmps68
  go_wp2_with fail
  go_loopw [2] (fun iv wr => iv = .int .i64 (0 : Nat) ∧ W = wr) (fun _ _ => 0)
  case atStart => exact ⟨rfl, rfl⟩
  case round =>
    obtain ⟨rfl, rfl⟩ := hrel
    go_wp2_with fail
    go_end0
    exact ⟨rfl, rfl⟩
theorem growKnown_no {b : Nat} {W : World} (hb : W.cell? ⟨b, 12, none⟩ = some (.slice none 0 0)) : Calls Tryz.prog 84 #[.pointer (some ⟨b, 0, none⟩)] W fun e W' => e = .returned (.tuple #[]) ∧ W = W' := by
  go_enter Tryz.func84, Tryz.ntmps84
  go_wp2_with fail
  go_loopw [2] (fun iv wr => iv = .int .i64 (0 : Nat) ∧ W = wr) (fun _ _ => 0)
  case atStart => exact ⟨rfl, rfl⟩
  case round =>
    obtain ⟨rfl, rfl⟩ := hrel
    go_wp2_with fail
    go_end0
    exact ⟨rfl, rfl⟩
theorem lookKnown_no {b : Nat} {W : World} (hb : W.cell? ⟨b, 12, none⟩ = some (.slice none 0 0)) : Calls Tryz.prog 100 #[.pointer (some ⟨b, 0, none⟩)] W fun e W' => e = .returned (.bool true) ∧ W = W' := by
  go_enter Tryz.func100, Tryz.ntmps100
  go_wp2_with fail
  go_loopw [3] (fun iv wr => iv = .int .i64 (0 : Nat) ∧ W = wr) (fun _ _ => 0)
  case atStart => exact ⟨rfl, rfl⟩
  case round =>
    obtain ⟨rfl, rfl⟩ := hrel
    go_wp2_with fail
    go_ret
    exact ⟨rfl, rfl⟩
theorem fillVote_no {b : Nat} {W : World} (hb : W.cell? ⟨b, 13, none⟩ = some (.slice none 0 0)) : Calls Tryz.prog 69 #[.pointer (some ⟨b, 0, none⟩)] W fun e W' => e = .returned (.tuple #[]) ∧ W = W' := by
  go_enter Tryz.func69, Tryz.ntmps69
  go_wp2_with fail
  go_loopw [2] (fun iv wr => iv = .int .i64 (0 : Nat) ∧ W = wr) (fun _ _ => 0)
  case atStart => exact ⟨rfl, rfl⟩
  case round =>
    obtain ⟨rfl, rfl⟩ := hrel
    go_wp2_with fail
    go_end0
    exact ⟨rfl, rfl⟩
theorem growVote_no {b : Nat} {W : World} (hb : W.cell? ⟨b, 13, none⟩ = some (.slice none 0 0)) : Calls Tryz.prog 85 #[.pointer (some ⟨b, 0, none⟩)] W fun e W' => e = .returned (.tuple #[]) ∧ W = W' := by
  go_enter Tryz.func85, Tryz.ntmps85
  go_wp2_with fail
  go_loopw [2] (fun iv wr => iv = .int .i64 (0 : Nat) ∧ W = wr) (fun _ _ => 0)
  case atStart => exact ⟨rfl, rfl⟩
  case round =>
    obtain ⟨rfl, rfl⟩ := hrel
    go_wp2_with fail
    go_end0
    exact ⟨rfl, rfl⟩
theorem lookVote_no {b : Nat} {W : World} (hb : W.cell? ⟨b, 13, none⟩ = some (.slice none 0 0)) : Calls Tryz.prog 101 #[.pointer (some ⟨b, 0, none⟩)] W fun e W' => e = .returned (.bool true) ∧ W = W' := by
  go_enter Tryz.func101, Tryz.ntmps101
  go_wp2_with fail
  go_loopw [3] (fun iv wr => iv = .int .i64 (0 : Nat) ∧ W = wr) (fun _ _ => 0)
  case atStart => exact ⟨rfl, rfl⟩
  case round =>
    obtain ⟨rfl, rfl⟩ := hrel
    go_wp2_with fail
    go_ret
    exact ⟨rfl, rfl⟩
theorem fillPart_no {b : Nat} {W : World} (hb : W.cell? ⟨b, 14, none⟩ = some (.slice none 0 0)) : Calls Tryz.prog 70 #[.pointer (some ⟨b, 0, none⟩)] W fun e W' => e = .returned (.tuple #[]) ∧ W = W' := by
  go_enter Tryz.func70, Tryz.ntmps70
  go_wp2_with fail
  go_loopw [2] (fun iv wr => iv = .int .i64 (0 : Nat) ∧ W = wr) (fun _ _ => 0)
  case atStart => exact ⟨rfl, rfl⟩
  case round =>
    obtain ⟨rfl, rfl⟩ := hrel
    go_wp2_with fail
    go_end0
    exact ⟨rfl, rfl⟩
theorem growPart_no {b : Nat} {W : World} (hb : W.cell? ⟨b, 14, none⟩ = some (.slice none 0 0)) : Calls Tryz.prog 86 #[.pointer (some ⟨b, 0, none⟩)] W fun e W' => e = .returned (.tuple #[]) ∧ W = W' := by
  go_enter Tryz.func86, Tryz.ntmps86
  go_wp2_with fail
  go_loopw [2] (fun iv wr => iv = .int .i64 (0 : Nat) ∧ W = wr) (fun _ _ => 0)
  case atStart => exact ⟨rfl, rfl⟩
  case round =>
    obtain ⟨rfl, rfl⟩ := hrel
    go_wp2_with fail
    go_end0
    exact ⟨rfl, rfl⟩
theorem lookPart_no {b : Nat} {W : World} (hb : W.cell? ⟨b, 14, none⟩ = some (.slice none 0 0)) : Calls Tryz.prog 102 #[.pointer (some ⟨b, 0, none⟩)] W fun e W' => e = .returned (.bool true) ∧ W = W' := by
  go_enter Tryz.func102, Tryz.ntmps102
  go_wp2_with fail
  go_loopw [3] (fun iv wr => iv = .int .i64 (0 : Nat) ∧ W = wr) (fun _ _ => 0)
  case atStart => exact ⟨rfl, rfl⟩
  case round =>
    obtain ⟨rfl, rfl⟩ := hrel
    go_wp2_with fail
    go_ret
    exact ⟨rfl, rfl⟩
theorem fillHashList_no {b : Nat} {W : World} (hb : W.cell? ⟨b, 15, none⟩ = some (.slice none 0 0)) : Calls Tryz.prog 71 #[.pointer (some ⟨b, 0, none⟩)] W fun e W' => e = .returned (.tuple #[]) ∧ W = W' := by
  go_enter Tryz.func71, Tryz.ntmps71
  go_wp2_with fail
  go_loopw [2] (fun iv wr => iv = .int .i64 (0 : Nat) ∧ W = wr) (fun _ _ => 0)
  case atStart => exact ⟨rfl, rfl⟩
  case round =>
    obtain ⟨rfl, rfl⟩ := hrel
    go_wp2_with fail
    go_end0
    exact ⟨rfl, rfl⟩
theorem growHashList_no {b : Nat} {W : World} (hb : W.cell? ⟨b, 15, none⟩ = some (.slice none 0 0)) : Calls Tryz.prog 87 #[.pointer (some ⟨b, 0, none⟩)] W fun e W' => e = .returned (.tuple #[]) ∧ W = W' := by
  go_enter Tryz.func87, Tryz.ntmps87
  go_wp2_with fail
  go_loopw [2] (fun iv wr => iv = .int .i64 (0 : Nat) ∧ W = wr) (fun _ _ => 0)
  case atStart => exact ⟨rfl, rfl⟩
  case round =>
    obtain ⟨rfl, rfl⟩ := hrel
    go_wp2_with fail
    go_end0
    exact ⟨rfl, rfl⟩
theorem lookHashList_no {b : Nat} {W : World} (hb : W.cell? ⟨b, 15, none⟩ = some (.slice none 0 0)) : Calls Tryz.prog 103 #[.pointer (some ⟨b, 0, none⟩)] W fun e W' => e = .returned (.bool true) ∧ W = W' := by
  go_enter Tryz.func103, Tryz.ntmps103
  go_wp2_with fail
  go_loopw [3] (fun iv wr => iv = .int .i64 (0 : Nat) ∧ W = wr) (fun _ _ => 0)
  case atStart => exact ⟨rfl, rfl⟩
  case round =>
    obtain ⟨rfl, rfl⟩ := hrel
    go_wp2_with fail
    go_ret
    exact ⟨rfl, rfl⟩
theorem fillQuery_no {b : Nat} {W : World} (hb : W.cell? ⟨b, 16, none⟩ = some (.slice none 0 0)) : Calls Tryz.prog 72 #[.pointer (some ⟨b, 0, none⟩)] W fun e W' => e = .returned (.tuple #[]) ∧ W = W' := by
  go_enter Tryz.func72, Tryz.ntmps72
  go_wp2_with fail
  go_loopw [2] (fun iv wr => iv = .int .i64 (0 : Nat) ∧ W = wr) (fun _ _ => 0)
  case atStart => exact ⟨rfl, rfl⟩
  case round =>
    obtain ⟨rfl, rfl⟩ := hrel
    go_wp2_with fail
    go_end0
    exact ⟨rfl, rfl⟩
theorem growQuery_no {b : Nat} {W : World} (hb : W.cell? ⟨b, 16, none⟩ = some (.slice none 0 0)) : Calls Tryz.prog 88 #[.pointer (some ⟨b, 0, none⟩)] W fun e W' => e = .returned (.tuple #[]) ∧ W = W' := by
  go_enter Tryz.func88, Tryz.ntmps88
  go_wp2_with fail
  go_loopw [2] (fun iv wr => iv = .int .i64 (0 : Nat) ∧ W = wr) (fun _ _ => 0)
  case atStart => exact ⟨rfl, rfl⟩
  case round =>
    obtain ⟨rfl, rfl⟩ := hrel
    go_wp2_with fail
    go_end0
    exact ⟨rfl, rfl⟩
theorem lookQuery_no {b : Nat} {W : World} (hb : W.cell? ⟨b, 16, none⟩ = some (.slice none 0 0)) : Calls Tryz.prog 104 #[.pointer (some ⟨b, 0, none⟩)] W fun e W' => e = .returned (.bool true) ∧ W = W' := by
  go_enter Tryz.func104, Tryz.ntmps104
  go_wp2_with fail
  go_loopw [3] (fun iv wr => iv = .int .i64 (0 : Nat) ∧ W = wr) (fun _ _ => 0)
  case atStart => exact ⟨rfl, rfl⟩
  case round =>
    obtain ⟨rfl, rfl⟩ := hrel
    go_wp2_with fail
    go_ret
    exact ⟨rfl, rfl⟩

set_option maxRecDepth 8000 in
set_option maxHeartbeats 8000000 in
theorem apartT_any {B b : Nat} {W : World} {tv : Value} {L : List HeldD} {C : Nat → List Value} {cs : Array Value} (hb : W.heap[b]? = some (.cells cs 64 (0, 0))) (hcs : ∀ c, 1 ≤ c → c ≤ 16 → c ≠ 3 → cs[c]? = some (.slice none 0 0)) (h3 : cs[3]? = some tv)
    (H : HoldT B W tv L C) (T : Tab10 W) (hP : 18 < B) (hB : B ≤ W.heap.size) (hn : L.length ≤ 1000000) (hnn : ∀ (i : Nat) h, L[i]? = some h → h.n ≤ 1000000000 ∧ h.num ≤ 1000000000 ∧ h.long = .slice none 0 0) :
    Calls Tryz.prog 18 #[.pointer (some ⟨b, 0, none⟩)] W fun e W' => e = .returned (.bool true) ∧ Upd (fun g => listBs L g ∨ tv.ownBlock = some g) W W' := by
  have hbB : ¬ listBs L b := fun ⟨i, hd, hi, hg⟩ => row_not_book (H.own i hd hi) hb (by decide) hg
  have hbt : tv.ownBlock ≠ some b := row_not_book H.row hb (by decide)
  have hTB : ¬ listBs L 18 := fun ⟨i, hd, hi, hg⟩ => by have := ((H.own i hd hi).lt _ hg).1; omega
  have hTt : tv.ownBlock ≠ some 18 := fun hg => by have := (H.row.lt _ hg).1; omega
  have HN := Lib.hid (fun (W' : World) (hb : W'.heap[b]? = some (.cells cs 64 (0, 0))) (c : Nat) (h1 : 1 ≤ c) (h2 : c ≤ 16) (h4 : c ≠ 3) => show W'.cell? ⟨b, c, none⟩ = some (.slice none 0 0) from (cell_of_blk hb c).trans (hcs c h1 h2 h4))
  have H3 := Lib.hid (fun (W' : World) (hb : W'.heap[b]? = some (.cells cs 64 (0, 0))) => show W'.cell? ⟨b, 3, none⟩ = some tv from (cell_of_blk hb 3).trans h3)
  have HBK := Lib.hid hb
  have HBB := Lib.hid (show ¬ (listBs L b ∨ tv.ownBlock = some b) from fun h => h.elim hbB hbt)
  have HH := Lib.hid H
  have HT := Lib.hid T
  have HTB := Lib.hid hTB
  have HTt := Lib.hid hTt
  have HNN := Lib.hid hnn
  have HNA := Lib.hid hn
  have HB0 := Lib.hid hB
  have HbB := Lib.hid hbB
  have HbT := Lib.hid hbt
  clear hb hcs h3 H T hP hB hn hnn hbB hbt hTB hTt
  go_enter Tryz.func18, Tryz.ntmps18
  go_wp2_with fail
  refine (fillInt_no (HN.out _ HBK.out 1 (by decide) (by decide) (by decide))).mono ?_
  rintro e w' ⟨rfl, rfl⟩
  go_wp2_with fail
  refine (fillByte_no (HN.out _ HBK.out 2 (by decide) (by decide) (by decide))).mono ?_
  rintro e w' ⟨rfl, rfl⟩
  go_wp2_with fail
  refine (fillT_any (H3.out _ HBK.out) HbB.out HH.out HT.out HTB.out HNA.out HNN.out).mono ?_
  rintro e W2 ⟨rfl, ⟨C2, H2, hC2⟩, u⟩
  have HBK2 := Lib.hid (u.blk HBK.out HbB.out)
  have HG2 := Lib.hid (GrowT.start H2 hC2 (fun i h hi => (HNN.out i h hi).2.2))
  have HT2 := Lib.hid (HT.out.upd u HTB.out)
  have HU2 := Lib.hid (u.mono (T := fun g => listBs L g ∨ tv.ownBlock = some g) (fun _ _ h => .inl h))
  have HBL2 := Lib.hid (Nat.le_trans HB0.out u.size)
  clear H2 hC2 u
  go_wp2_with fail
  refine (fillNumber_no (HN.out _ HBK2.out 4 (by decide) (by decide) (by decide))).mono ?_
  rintro e w' ⟨rfl, rfl⟩
  go_wp2_with fail
  refine (fillHash_no (HN.out _ HBK2.out 5 (by decide) (by decide) (by decide))).mono ?_
  rintro e w' ⟨rfl, rfl⟩
  go_wp2_with fail
  refine (fillCoord_no (HN.out _ HBK2.out 6 (by decide) (by decide) (by decide))).mono ?_
  rintro e w' ⟨rfl, rfl⟩
  go_wp2_with fail
  refine (fillSpan_no (HN.out _ HBK2.out 7 (by decide) (by decide) (by decide))).mono ?_
  rintro e w' ⟨rfl, rfl⟩
  go_wp2_with fail
  refine (fillNode_no (HN.out _ HBK2.out 8 (by decide) (by decide) (by decide))).mono ?_
  rintro e w' ⟨rfl, rfl⟩
  go_wp2_with fail
  refine (fillTile_no (HN.out _ HBK2.out 9 (by decide) (by decide) (by decide))).mono ?_
  rintro e w' ⟨rfl, rfl⟩
  go_wp2_with fail
  refine (fillEntry_no (HN.out _ HBK2.out 10 (by decide) (by decide) (by decide))).mono ?_
  rintro e w' ⟨rfl, rfl⟩
  go_wp2_with fail
  refine (fillFound_no (HN.out _ HBK2.out 11 (by decide) (by decide) (by decide))).mono ?_
  rintro e w' ⟨rfl, rfl⟩
  go_wp2_with fail
  refine (fillKnown_no (HN.out _ HBK2.out 12 (by decide) (by decide) (by decide))).mono ?_
  rintro e w' ⟨rfl, rfl⟩
  go_wp2_with fail
  refine (fillVote_no (HN.out _ HBK2.out 13 (by decide) (by decide) (by decide))).mono ?_
  rintro e w' ⟨rfl, rfl⟩
  go_wp2_with fail
  refine (fillPart_no (HN.out _ HBK2.out 14 (by decide) (by decide) (by decide))).mono ?_
  rintro e w' ⟨rfl, rfl⟩
  go_wp2_with fail
  refine (fillHashList_no (HN.out _ HBK2.out 15 (by decide) (by decide) (by decide))).mono ?_
  rintro e w' ⟨rfl, rfl⟩
  go_wp2_with fail
  refine (fillQuery_no (HN.out _ HBK2.out 16 (by decide) (by decide) (by decide))).mono ?_
  rintro e w' ⟨rfl, rfl⟩
  go_wp2_with fail
  refine (growInt_no (HN.out _ HBK2.out 1 (by decide) (by decide) (by decide))).mono ?_
  rintro e w' ⟨rfl, rfl⟩
  go_wp2_with fail
  refine (growByte_no (HN.out _ HBK2.out 2 (by decide) (by decide) (by decide))).mono ?_
  rintro e w' ⟨rfl, rfl⟩
  go_wp2_with fail
  refine (growT_any (H3.out _ HBK2.out) HbB.out HbT.out HG2.out HT2.out HTB.out HTt.out HBL2.out HNA.out (fun i h hi => ⟨(HNN.out i h hi).1, (HNN.out i h hi).2.1⟩)).mono ?_
  rintro e W3 ⟨rfl, ⟨L3, H3'⟩, u⟩
  have HBK3 := Lib.hid (u.blk HBK2.out HBB.out)
  have HG3 := Lib.hid H3'
  have HT3 := Lib.hid (HT2.out.upd u (fun h => h.elim HTB.out HTt.out))
  have HU3 := Lib.hid (HU2.out.trans u)
  clear H3' u
  go_wp2_with fail
  refine (growNumber_no (HN.out _ HBK3.out 4 (by decide) (by decide) (by decide))).mono ?_
  rintro e w' ⟨rfl, rfl⟩
  go_wp2_with fail
  refine (growHash_no (HN.out _ HBK3.out 5 (by decide) (by decide) (by decide))).mono ?_
  rintro e w' ⟨rfl, rfl⟩
  go_wp2_with fail
  refine (growCoord_no (HN.out _ HBK3.out 6 (by decide) (by decide) (by decide))).mono ?_
  rintro e w' ⟨rfl, rfl⟩
  go_wp2_with fail
  refine (growSpan_no (HN.out _ HBK3.out 7 (by decide) (by decide) (by decide))).mono ?_
  rintro e w' ⟨rfl, rfl⟩
  go_wp2_with fail
  refine (growNode_no (HN.out _ HBK3.out 8 (by decide) (by decide) (by decide))).mono ?_
  rintro e w' ⟨rfl, rfl⟩
  go_wp2_with fail
  refine (growTile_no (HN.out _ HBK3.out 9 (by decide) (by decide) (by decide))).mono ?_
  rintro e w' ⟨rfl, rfl⟩
  go_wp2_with fail
  refine (growEntry_no (HN.out _ HBK3.out 10 (by decide) (by decide) (by decide))).mono ?_
  rintro e w' ⟨rfl, rfl⟩
  go_wp2_with fail
  refine (growFound_no (HN.out _ HBK3.out 11 (by decide) (by decide) (by decide))).mono ?_
  rintro e w' ⟨rfl, rfl⟩
  go_wp2_with fail
  refine (growKnown_no (HN.out _ HBK3.out 12 (by decide) (by decide) (by decide))).mono ?_
  rintro e w' ⟨rfl, rfl⟩
  go_wp2_with fail
  refine (growVote_no (HN.out _ HBK3.out 13 (by decide) (by decide) (by decide))).mono ?_
  rintro e w' ⟨rfl, rfl⟩
  go_wp2_with fail
  refine (growPart_no (HN.out _ HBK3.out 14 (by decide) (by decide) (by decide))).mono ?_
  rintro e w' ⟨rfl, rfl⟩
  go_wp2_with fail
  refine (growHashList_no (HN.out _ HBK3.out 15 (by decide) (by decide) (by decide))).mono ?_
  rintro e w' ⟨rfl, rfl⟩
  go_wp2_with fail
  refine (growQuery_no (HN.out _ HBK3.out 16 (by decide) (by decide) (by decide))).mono ?_
  rintro e w' ⟨rfl, rfl⟩
  go_wp2_with fail
  refine (lookInt_no (HN.out _ HBK3.out 1 (by decide) (by decide) (by decide))).mono ?_
  rintro e w' ⟨rfl, rfl⟩
  go_wp2_with fail
  refine (lookByte_no (HN.out _ HBK3.out 2 (by decide) (by decide) (by decide))).mono ?_
  rintro e w' ⟨rfl, rfl⟩
  go_wp2_with fail
  refine (lookT_any (H3.out _ HBK3.out) HG3.out HT3.out HNA.out (fun i h hi => ⟨(HNN.out i h hi).1, (HNN.out i h hi).2.1⟩)).mono ?_
  rintro e W4 ⟨rfl, u⟩
  have HBK4 := Lib.hid (Ext.blk u HBK3.out)
  have HU4 := Lib.hid (HU3.out.thenExt u)
  clear u
  go_wp2_with fail
  refine (lookNumber_no (HN.out _ HBK4.out 4 (by decide) (by decide) (by decide))).mono ?_
  rintro e w' ⟨rfl, rfl⟩
  go_wp2_with fail
  refine (lookHash_no (HN.out _ HBK4.out 5 (by decide) (by decide) (by decide))).mono ?_
  rintro e w' ⟨rfl, rfl⟩
  go_wp2_with fail
  refine (lookCoord_no (HN.out _ HBK4.out 6 (by decide) (by decide) (by decide))).mono ?_
  rintro e w' ⟨rfl, rfl⟩
  go_wp2_with fail
  refine (lookSpan_no (HN.out _ HBK4.out 7 (by decide) (by decide) (by decide))).mono ?_
  rintro e w' ⟨rfl, rfl⟩
  go_wp2_with fail
  refine (lookNode_no (HN.out _ HBK4.out 8 (by decide) (by decide) (by decide))).mono ?_
  rintro e w' ⟨rfl, rfl⟩
  go_wp2_with fail
  refine (lookTile_no (HN.out _ HBK4.out 9 (by decide) (by decide) (by decide))).mono ?_
  rintro e w' ⟨rfl, rfl⟩
  go_wp2_with fail
  refine (lookEntry_no (HN.out _ HBK4.out 10 (by decide) (by decide) (by decide))).mono ?_
  rintro e w' ⟨rfl, rfl⟩
  go_wp2_with fail
  refine (lookFound_no (HN.out _ HBK4.out 11 (by decide) (by decide) (by decide))).mono ?_
  rintro e w' ⟨rfl, rfl⟩
  go_wp2_with fail
  refine (lookKnown_no (HN.out _ HBK4.out 12 (by decide) (by decide) (by decide))).mono ?_
  rintro e w' ⟨rfl, rfl⟩
  go_wp2_with fail
  refine (lookVote_no (HN.out _ HBK4.out 13 (by decide) (by decide) (by decide))).mono ?_
  rintro e w' ⟨rfl, rfl⟩
  go_wp2_with fail
  refine (lookPart_no (HN.out _ HBK4.out 14 (by decide) (by decide) (by decide))).mono ?_
  rintro e w' ⟨rfl, rfl⟩
  go_wp2_with fail
  refine (lookHashList_no (HN.out _ HBK4.out 15 (by decide) (by decide) (by decide))).mono ?_
  rintro e w' ⟨rfl, rfl⟩
  go_wp2_with fail
  refine (lookQuery_no (HN.out _ HBK4.out 16 (by decide) (by decide) (by decide))).mono ?_
  rintro e w' ⟨rfl, rfl⟩
  go_wp2_with fail
  go_ret
  exact ⟨rfl, HU4.out⟩
end Go.Proofs.YtljnhelnmnomoaaGreatDoor
