/- What DecodeAnswer holds in its loop: a reader, the answer's variable, its row of hashes. -/
import Derived.Test.YtljnhelnmnomoaaGreatDoorWireDA
import Derived.Test.YtljnhelnmnomoaaGreatDoorAgg
namespace Go.Proofs.YtljnhelnmnomoaaGreatDoor
open Go.RowKit Go.Lib

theorem own_baseA {w : World} {B B' size n : Nat} {e : TypeId} {v : Value} {xs : List Value} (h : w.ownsRow B e size v n xs) (hB : B' ≤ B) : w.ownsRow B' e size v n xs :=
  ⟨h.1, h.2.imp id (fun ⟨g, cap, cur, hv, hb, rest⟩ => ⟨g, cap, cur, hv, Nat.le_trans hB hb, rest⟩)⟩
structure DecAt (n : Nat) (se : Nat → Addr) (w w' : World) (D : Nat → Prop) (rb : Nat) (x : RdD) (ba r0 : Nat) (A : AnsD) (v : Value) : Prop where
  r : RdS n se w w' D rb x
  a : w'.heap[ba]? = some (.cells (ansCells A v) 70 (0, 0))
  z : w'.heap[r0]? = some (.cells zeroAns.toArray 70 (0, 0))
  da : D ba
  d0 : D r0
  lt : r0 < ba
  row : w'.ownsRow (ba + 1) 120 32 v A.hs.length (hashCells A.hs)
  dv : ∀ g, v.ownBlock = some g → D g
section
variable {n : Nat} {se : Nat → Addr} {w w1 w2 : World} {D : Nat → Prop} {rb : Nat} {x y : RdD} {ba r0 : Nat} {A : AnsD} {v : Value}
theorem DecAt.rd (h : DecAt n se w w1 D rb x ba r0 A v) (k : RdS n se w w2 D rb y) (u : Upd (one rb) w1 w2) : DecAt n se w w2 D rb y ba r0 A v := by
  have hb := h.r.nb
  exact ⟨k, u.blk h.a (fun e => hb (by cases e; exact h.da)), u.blk h.z (fun e => hb (by cases e; exact h.d0)), h.da, h.d0, h.lt, ownsRow_upd h.row u (fun g hg e => hb (by cases e; exact h.dv _ hg)), h.dv⟩
theorem DecAt.ext (h : DecAt n se w w1 D rb x ba r0 A v) (u : Ext w1 w2) : DecAt n se w w2 D rb x ba r0 A v :=
  ⟨h.r.ext u, Ext.blk u h.a, Ext.blk u h.z, h.da, h.d0, h.lt, ownsRow_upd h.row u (fun _ _ => id), h.dv⟩
theorem DecAt.set (h : DecAt n se w w1 D rb x ba r0 A v) (i : Nat) (u : Value) (A' : AnsD) (hh : A'.hs = A.hs) (hc : (ansCells A v).setIfInBounds i u = ansCells A' v) : DecAt n se w (w1.setCell ⟨ba, i, none⟩ u) D rb x ba r0 A' v := by
  have U : Upd (one ba) w1 (w1.setCell ⟨ba, i, none⟩ u) := (Upd.refl (one ba) w1).setCell (p := ⟨ba, i, none⟩) (.inr rfl) _
  have U4 : Upd D w1 (w1.setCell ⟨ba, i, none⟩ u) := U.mono (fun k _ hk => by cases hk; exact h.da)
  have ha3 := blk_set h.a i u
  rw [hc] at ha3
  exact ⟨h.r.turn U4, ha3, blk_set_ne h.z (by have := h.lt; show r0 ≠ ba; omega) _, h.da, h.d0, h.lt, by rw [hh]; exact ownsRow_upd h.row U (fun g hk e => by cases e; have := (h.row.lt _ hk).1; omega), h.dv⟩
/-- A hash is appended, the slice laid into the answer. -/
theorem DecAt.app (h : DecAt n se w w1 D rb x ba r0 A v) (t : List UInt8) {v' : Value} (ho : w2.ownsRow (ba + 1) 120 32 v' (A.hs.length + 1) (hashCells A.hs ++ t.map u8v)) (hg : w1.grownBy w2 v.ownBlock) (hbl : v'.ownBlock = v.ownBlock ∨ v'.ownBlock = some w1.heap.size) :
    DecAt n se w (w2.setCell ⟨ba, 2, none⟩ v') (plus D w1.heap.size w2.heap.size) rb x ba r0 { A with hs := A.hs ++ [t] } v' := by
  have U : Upd D w1 w2 := (Upd.refl D w1).grown hg (fun k hk => .inr (h.dv k hk))
  have R := h.r.grow U
  have hvg : ∀ g, v.ownBlock = some g → ba + 1 ≤ g := fun g hg => (h.row.lt g hg).1
  have U2 : Upd (fun k => v.ownBlock = some k) w1 w2 := (Upd.refl _ w1).grown hg (fun k hk => .inr hk)
  have ha2 := U2.blk h.a (fun e => by have := hvg _ e; omega)
  have hz2 := U2.blk h.z (fun e => by have := hvg _ e; have := h.lt; omega)
  have U3 : Upd (one ba) w2 (w2.setCell ⟨ba, 2, none⟩ v') := (Upd.refl (one ba) w2).setCell (p := ⟨ba, 2, none⟩) (.inr rfl) _
  have U4 : Upd (plus D w1.heap.size w2.heap.size) w2 (w2.setCell ⟨ba, 2, none⟩ v') := U3.mono (fun k _ hk => by cases hk; exact .inl h.da)
  have ha3 := blk_set ha2 2 v'
  refine ⟨R.turn U4, ha3, blk_set_ne hz2 (by have := h.lt; show r0 ≠ ba; omega) _, .inl h.da, .inl h.d0, h.lt, ?_, fun g hk => ?_⟩
  · have e : hashCells (A.hs ++ [t]) = hashCells A.hs ++ t.map u8v := by simp [hashCells]
    show World.ownsRow _ _ _ _ _ (A.hs ++ [t]).length (hashCells (A.hs ++ [t]))
    rw [e, List.length_append]
    exact ownsRow_upd ho U3 (fun g hk e => by cases e; have := (ho.lt _ hk).1; omega)
  · rcases hbl with e | e
    · exact .inl (h.dv g (by rw [← e]; exact hk))
    · have hlt := (ho.lt g hk).2
      rw [e] at hk
      cases hk
      exact .inr ⟨Nat.le_refl _, hlt⟩
/-- Where it was before the append: what the walk reads. -/
theorem DecAt.after (h : DecAt n se w w1 D rb x ba r0 A v) (hg : w1.grownBy w2 v.ownBlock) : w2.heap[ba]? = some (.cells (ansCells A v) 70 (0, 0)) := by
  have U2 : Upd (fun k => v.ownBlock = some k) w1 w2 := (Upd.refl _ w1).grown hg (fun k hk => .inr hk)
  exact U2.blk h.a (fun e => by have := (h.row.lt _ e).1; omega)
theorem hcells_at (ls : List (List UInt8)) (h : ∀ t ∈ ls, t.length = 32) (i j : Nat) (t : List UInt8) (hi : ls[i]? = some t) (hj : j < 32) : (hashCells ls)[i * 32 + j]? = (t.map u8v)[j]? := by
  unfold hashCells
  induction ls generalizing i with
  | nil => simp at hi
  | cons u ls ih =>
    have hl : (u.map u8v).length = 32 := by rw [List.length_map]; exact h u (by simp)
    cases i with
    | zero =>
      have e : u = t := by simpa using hi
      subst e
      rw [List.flatMap_cons, Nat.zero_mul, Nat.zero_add, List.getElem?_append_left (by omega)]
    | succ i =>
      have hi' : ls[i]? = some t := by simpa using hi
      rw [List.flatMap_cons, List.getElem?_append_right (by omega), hl, show (i + 1) * 32 + j - 32 = i * 32 + j by omega]
      exact ih (fun t ht => h t (by simp [ht])) i hi'
theorem hashes_of_row {B : Nat} {w : World} {v : Value} {ls : List (List UInt8)} (h : w.ownsRow B 120 32 v ls.length (hashCells ls)) (hl : ∀ t ∈ ls, t.length = 32) : ∃ a cap, v = .slice a ls.length cap ∧ HashesAt w a ls := by
  have hcell := fun (g : Nat) => h.cells (g := g)
  rcases h.2 with ⟨rfl, h0⟩ | ⟨g, cap, cur, rfl, _, hg, _⟩
  · exact ⟨none, 0, by rw [h0], fun i x hx => by rw [List.length_eq_zero_iff.1 h0] at hx; simp at hx⟩
  · refine ⟨_, cap, rfl, fun i x hx => ⟨hl x (List.mem_of_getElem? hx), g, 0, rfl, fun j u hu => ?_⟩⟩
    have hxo := hl x (List.mem_of_getElem? hx)
    have hj : j < 32 := by
      have := (List.getElem?_eq_some_iff.1 hu).1
      rw [List.length_map, hxo] at this; exact this
    have hc := hcell g rfl (i * 32 + j) u (by rw [hcells_at ls hl i j x hx hj]; exact hu)
    have e : (⟨g, 0, none⟩ : Addr).add (i * 32 + j) = ⟨g, 0 + (i * 32 + j), none⟩ := by
      unfold Addr.add
      split
      · rename_i h0; simp only [Addr.mk.injEq, true_and, and_true]; omega
      · simp only [Addr.mk.injEq, true_and, and_true]
    rw [e] at hc
    exact hc
theorem ErrIs.notat {g : Nat} {u : Value} {xx : EV} {cs : Array Value} (h : ErrIs se w u xx) (hb : w.heap[g]? = some (.cells cs 70 (0, 0))) : ErrIn u (fun b => ¬ one g b) := fun b hv hg => by
  cases hg
  match xx, h with
  | none, h => rw [show u = .nilIface from h] at hv; cases hv
  | some (_, none), ⟨_, _, h⟩ => rw [h] at hv; simp [sv] at hv
  | some (_, some _), ⟨_, _, b', h, hb'⟩ =>
    rw [h] at hv
    simp only [Value.iface.injEq, Value.pointer.injEq, Option.some.injEq, Addr.mk.injEq, true_and, and_true] at hv
    subst hv
    rw [hb] at hb'
    simp at hb'
theorem DecAt.fin_ok (h : DecAt n se w w1 D rb x ba w.heap.size A v) (hl : ∀ t ∈ A.hs, t.length = 32) : DecAPostO se w (A, none) (.returned (.tuple #[.agg (ansCells A v), .nilIface])) (w1.setRow w.heap.size (ansCells A v)) := by
  have U : Upd (one w.heap.size) w1 (w1.setRow w.heap.size (ansCells A v)) := (Upd.refl (one w.heap.size) w1).setRow (.inr rfl) _
  have ho := ownsRow_upd h.row U (fun g hk e => by cases e; have := (h.row.lt _ hk).1; have := h.lt; omega)
  have hlt := h.lt
  obtain ⟨a, cap, rfl, hh⟩ := hashes_of_row ho hl
  exact ⟨a, cap, .nilIface, rfl, hh, rfl, h.r.e.setRow (.inl (Nat.le_refl _)) _, own_baseA ho (by omega)⟩
theorem DecAt.fin_bad (h : DecAt n se w w1 D rb x ba w.heap.size A v) {u : Value} {ee : EV} (hv : ErrIs se w1 u ee) : DecAPostO se w (zeroA, ee) (.returned (.tuple #[.agg zeroAns.toArray, u])) (w1.setRow w.heap.size zeroAns.toArray) :=
  ⟨none, 0, u, rfl, HashesAt.nil _ _, hv.upd ((Upd.refl (one w.heap.size) w1).setRow (.inr rfl) _) (hv.notat h.z), h.r.e.setRow (.inl (Nat.le_refl _)) _, own_nilA⟩
end
/-- A byte of a string, for the walk to take. -/
theorem idx_str (s : ByteArray) (c : UInt8) (l : List UInt8) (h : s.data.toList = c :: l) (W : World) : (Instr.index 9 (.string s) (.int .i64 0)).run Tryz.prog W = .ok (.int .u8 (c.toNat : Int)) W := by
  have hs : 0 < s.size := by have : s.data.toList.length = s.size := by rw [Array.length_toList]; rfl
                             rw [h] at this; simp at this; omega
  rw [run_index_string W 9 s .i64 0 Tryz.underlying9, dif_pos ⟨by omega, by omega⟩]
  congr 3
  have e : s.data.toList[0]? = some c := by rw [h]; rfl
  have : (s[0]'hs) = c := by
    have h2 : s.data[0]? = some c := by rw [← Array.getElem?_toList]; exact e
    have h3 : s.data[0]'hs = c := by
      have := Array.getElem?_eq_getElem (xs := s.data) (i := 0) hs
      rw [this] at h2; exact Option.some.inj h2
    exact h3
  exact congrArg (fun u : UInt8 => u.toNat) this
theorem fixed_one (s : ByteArray) (c : UInt8) (l : List UInt8) (h : s.data.toList = c :: l) : RdD.fixed ⟨s, 0, none⟩ 1 = (c.toNat, ⟨s, 1, none⟩) := by
  have hs : 1 ≤ s.size := by have : s.data.toList.length = s.size := by rw [Array.length_toList]; rfl
                             rw [h] at this; simp at this; omega
  have ht : RdD.take ⟨s, 0, none⟩ 1 0 = ([c], ⟨s, 1, none⟩) := by
    unfold RdD.take
    rw [if_pos ⟨rfl, by omega⟩]
    unfold RdD.rest
    simp [h]
  unfold RdD.fixed
  rw [if_neg (by omega), if_neg (fun h => h rfl)]
  show (beNum (RdD.take ⟨s, 0, none⟩ 1 ((0 : Nat) : Int)).1, (RdD.take ⟨s, 0, none⟩ 1 ((0 : Nat) : Int)).2) = _
  rw [show ((0 : Nat) : Int) = 0 from rfl, ht]
  simp [beNum]
/-- A whole row stored. -/
theorem store_all {P : Program} {w : World} {ops : Array Oper} {rest : List Oper} {o : Oper} {a : Act} {Q : Exit → Act → World → Prop} (hgd : o.guard = none) (ty : TypeId) (x y : Operand) (ho : o.op = .store ty x y)
    (g : Nat) (hx : a.eval x = .pointer (some ⟨g, 0, none⟩)) (vs : List Value) (hy : a.eval y = .agg vs.toArray) (hi : (P.info? ty).map (·.size) = some vs.length)
    (cs : List Value) (t : TypeId) (hg : w.heap[g]? = some (.cells cs.toArray t (0, 0))) (hl : cs.length = vs.length) (h1 : ∀ u ∈ vs, u.oneCell' = true)
    (h : wpList P ops Q rest (a.put o.dst undef) (w.setRow g vs.toArray)) : wpList P ops Q (o :: rest) a w := by
  refine wpList_storeAgg hgd ty x y ho g 0 hx vs hy hi cs t hg (by omega) h1 ?_
  rw [over_all _ _ hl]
  exact h
theorem decHs_len : ∀ (n : Nat) (x : RdD), ∀ t ∈ (decHs n x).1, t.length = 32
  | 0, x, t, ht => by simp [decHs] at ht
  | n + 1, x, t, ht => by
    unfold decHs at ht
    split at ht
    · simp at ht
    · rcases List.mem_cons.1 ht with e | e
      · rw [e]; exact hash_len x
      · exact decHs_len n _ t e
end Go.Proofs.YtljnhelnmnomoaaGreatDoor
