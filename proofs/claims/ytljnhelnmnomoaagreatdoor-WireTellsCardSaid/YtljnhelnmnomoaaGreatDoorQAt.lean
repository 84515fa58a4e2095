/- wire.DecodeQuery: what it gives, plainly; what it holds on the way. -/
import Derived.Test.YtljnhelnmnomoaaGreatDoorEncQ
import Derived.Test.YtljnhelnmnomoaaGreatDoorDecAt
namespace Go.Proofs.YtljnhelnmnomoaaGreatDoor
open Go.RowKit Go.Lib

abbrev zeroQ : QryD := ⟨0, 0, 0, 0, 0, 0, 0, []⟩
def zeroQry : List Value := [.int .u8 0, .int .u8 0, .int .u64 0, .int .u64 0, .int .u64 0, .int .u64 0, .int .u64 0, .slice none 0 0]
def setQ (q : QryD) : Nat → Nat → QryD
  | 0, v => { q with size := v } | 1, v => { q with index := v } | 2, v => { q with old := v } | 3, v => { q with bgn := v } | _, v => { q with fin := v }
def decNums : List Nat → QryD → RdD → QryD × RdD
  | [], q, x => (q, x)
  | i :: l, q, x => decNums l (setQ q i x.var.1) x.var.2
def decTexts : Nat → RdD → List ByteArray × RdD
  | 0, x => ([], x)
  | n + 1, x => (str (x.text 65536).1 :: (decTexts n (x.text 65536).2).1, (decTexts n (x.text 65536).2).2)
def finQ (q : QryD) (x : RdD) : QryD × EV := if x.fin = none then (q, none) else (zeroQ, x.fin)
def decQ (s : ByteArray) : QryD × EV :=
  if 1048576 < s.size then (zeroQ, some (4, none)) else
  match s.data.toList with
  | [] => (zeroQ, some (3, some 0))
  | c :: l => if okQ c.toNat = false then (zeroQ, some (3, some 0)) else
    match l with
    | [] => (zeroQ, some (3, some 1))
    | e :: _ => if goesB c.toNat e.toNat = false then (zeroQ, some (3, some 1)) else
      let r := decNums (askN c.toNat) ⟨c.toNat, e.toNat, 0, 0, 0, 0, 0, []⟩ ⟨s, 2, none⟩
      if askL c.toNat then
        if 4096 < r.2.var.1 then (zeroQ, some (4, none)) else finQ { r.1 with leaves := (decTexts r.2.var.1 r.2.var.2).1 } (decTexts r.2.var.1 r.2.var.2).2
      else finQ r.1 r.2
def DecQPost (se : Nat → Addr) (w : World) (r : QryD × EV) (e : Ending) (w' : World) : Prop :=
  ∃ (ad : Option Addr) (cap : Nat) (v : Value), e = .returned (.tuple #[.agg (qCells r.1 (.slice ad r.1.leaves.length cap)).toArray, v]) ∧ TextsAt w' ad r.1.leaves ∧ ErrIs se w' v r.2 ∧ Ext w w'
theorem own_base {w : World} {B B' size n : Nat} {e : TypeId} {v : Value} {xs : List Value} (h : w.ownsRow B e size v n xs) (hB : B' ≤ B) : w.ownsRow B' e size v n xs :=
  ⟨h.1, h.2.imp id (fun ⟨g, cap, cur, hv, hb, rest⟩ => ⟨g, cap, cur, hv, Nat.le_trans hB hb, rest⟩)⟩
theorem own_nil {w : World} {B size : Nat} {e : TypeId} : w.ownsRow B e size (.slice none 0 0) 0 [] := ⟨by simp, .inl ⟨rfl, rfl⟩⟩
def textCells (l : List ByteArray) : List Value := l.map Value.string
/-- DecQPost, and: the leaves lie in memory of the call's own. -/
def DecQPostO (se : Nat → Addr) (w : World) (r : QryD × EV) (e : Ending) (w' : World) : Prop :=
  ∃ (ad : Option Addr) (cap : Nat) (v : Value), e = .returned (.tuple #[.agg (qCells r.1 (.slice ad r.1.leaves.length cap)).toArray, v]) ∧ TextsAt w' ad r.1.leaves ∧ ErrIs se w' v r.2 ∧ Ext w w' ∧ w'.ownsRow w.heap.size 9 1 (.slice ad r.1.leaves.length cap) r.1.leaves.length (textCells r.1.leaves)
theorem DecQPostO.post {se : Nat → Addr} {w w' : World} {r : QryD × EV} {e : Ending} (h : DecQPostO se w r e w') : DecQPost se w r e w' := by
  obtain ⟨ad, cap, v, h1, h2, h3, h4, _⟩ := h
  exact ⟨ad, cap, v, h1, h2, h3, h4⟩
theorem TextsAt.nil (w : World) (a : Option Addr) : TextsAt w a [] := fun i x hx => by simp at hx
theorem qry_one (q : QryD) (v : Value) (hv : v.oneCell' = true) : ∀ u ∈ qCells q v, u.oneCell' = true := fun u hu => by
  simp only [qCells, List.mem_cons, List.not_mem_nil, or_false] at hu
  rcases hu with rfl | rfl | rfl | rfl | rfl | rfl | rfl | rfl
  iterate 7 rfl
  exact hv
theorem resQ (tmps : Array Value) (w : World) (g : Nat) (cs : Array Value) (v : Value) (hp : tmps.getD 2 undef = .pointer (some ⟨g, 0, none⟩)) (hv : tmps.getD 3 undef = v) (hg : w.heap[g]? = some (.cells cs 27 (0, 0))) (hs : cs.size = 8) :
    (results Tryz.f15 tmps).run Tryz.prog w = .ok (.tuple #[.agg cs, v]) w := by
  rw [← hv]
  exact results_cell_two rfl tmps w g 27 cs (0, 0) _ hp hg Tryz.underlying27 rfl (by rw [hs]; exact qry_size)
structure QAt (n : Nat) (se : Nat → Addr) (w w' : World) (D : Nat → Prop) (rb : Nat) (x : RdD) (bq r0 ba : Nat) (q : QryD) (v : Value) (ak : Array Value) : Prop where
  r : RdS n se w w' D rb x
  a : w'.heap[bq]? = some (.cells (qCells q v).toArray 27 (0, 0))
  z : w'.heap[r0]? = some (.cells zeroQry.toArray 27 (0, 0))
  k : w'.heap[ba]? = some (.cells ak 83 (0, 0))
  dq : D bq
  d0 : D r0
  da : D ba
  lt : r0 < bq
  lt2 : bq < ba
  row : w'.ownsRow (ba + 1) 9 1 v q.leaves.length (textCells q.leaves)
  dv : ∀ g, v.ownBlock = some g → D g
section
variable {n : Nat} {se : Nat → Addr} {w w1 w2 : World} {D : Nat → Prop} {rb : Nat} {x y : RdD} {bq r0 ba : Nat} {q : QryD} {v : Value} {ak : Array Value}
theorem QAt.rd (h : QAt n se w w1 D rb x bq r0 ba q v ak) (k : RdS n se w w2 D rb y) (u : Upd (one rb) w1 w2) : QAt n se w w2 D rb y bq r0 ba q v ak := by
  have hb := h.r.nb
  exact ⟨k, u.blk h.a (fun e => hb (by cases e; exact h.dq)), u.blk h.z (fun e => hb (by cases e; exact h.d0)), u.blk h.k (fun e => hb (by cases e; exact h.da)), h.dq, h.d0, h.da, h.lt, h.lt2, ownsRow_upd h.row u (fun g hg e => hb (by cases e; exact h.dv _ hg)), h.dv⟩
theorem QAt.ext (h : QAt n se w w1 D rb x bq r0 ba q v ak) (u : Ext w1 w2) : QAt n se w w2 D rb x bq r0 ba q v ak :=
  ⟨h.r.ext u, Ext.blk u h.a, Ext.blk u h.z, Ext.blk u h.k, h.dq, h.d0, h.da, h.lt, h.lt2, ownsRow_upd h.row u (fun _ _ => id), h.dv⟩
theorem QAt.set (h : QAt n se w w1 D rb x bq r0 ba q v ak) (i : Nat) (u : Value) (q' : QryD) (hh : q'.leaves = q.leaves) (hc : (qCells q v).toArray.setIfInBounds i u = (qCells q' v).toArray) : QAt n se w (w1.setCell ⟨bq, i, none⟩ u) D rb x bq r0 ba q' v ak := by
  have U : Upd (one bq) w1 (w1.setCell ⟨bq, i, none⟩ u) := (Upd.refl (one bq) w1).setCell (p := ⟨bq, i, none⟩) (.inr rfl) _
  have U4 : Upd D w1 (w1.setCell ⟨bq, i, none⟩ u) := U.mono (fun k _ hk => by cases hk; exact h.dq)
  have ha3 := blk_set h.a i u
  rw [hc] at ha3
  exact ⟨h.r.turn U4, ha3, blk_set_ne h.z (by have := h.lt; show r0 ≠ bq; omega) _, blk_set_ne h.k (by have := h.lt2; show ba ≠ bq; omega) _, h.dq, h.d0, h.da, h.lt, h.lt2, by rw [hh]; exact ownsRow_upd h.row U (fun g hk e => by cases e; have := (h.row.lt _ hk).1; have := h.lt2; omega), h.dv⟩
theorem set_num (q : QryD) (v : Value) (i m : Nat) (h : i < 5) : (qCells q v).toArray.setIfInBounds (i + 2) (.int .u64 m) = (qCells (setQ q i m) v).toArray ∧ (setQ q i m).leaves = q.leaves := by
  rcases (show i = 0 ∨ i = 1 ∨ i = 2 ∨ i = 3 ∨ i = 4 by omega) with rfl | rfl | rfl | rfl | rfl <;> exact ⟨rfl, rfl⟩
theorem texts_of_row {B : Nat} {w : World} {v : Value} {l : List ByteArray} (h : w.ownsRow B 9 1 v l.length (textCells l)) (hl : ∀ t ∈ l, t.size ≤ 9223372036854775807) : ∃ a cap, v = .slice a l.length cap ∧ TextsAt w a l := by
  have hcell := fun (g : Nat) => h.cells (g := g)
  rcases h.2 with ⟨rfl, h0⟩ | ⟨g, cap, cur, rfl, _, hg, _⟩
  · exact ⟨none, 0, by rw [h0], fun i x hx => by rw [List.length_eq_zero_iff.1 h0] at hx; simp at hx⟩
  · refine ⟨_, cap, rfl, fun i x hx => ⟨hl x (List.mem_of_getElem? hx), g, 0, rfl, ?_⟩⟩
    have hc := hcell g rfl i (.string x) (by simp [textCells, hx])
    rw [Addr.add_lit] at hc
    exact hc
theorem ErrIs.notatQ {g : Nat} {u : Value} {xx : EV} {cs : Array Value} (h : ErrIs se w u xx) (hb : w.heap[g]? = some (.cells cs 27 (0, 0))) : ErrIn u (fun b => ¬ one g b) := fun b hv hg => by
  cases hg
  match xx, h with
  | none, h => rw [show u = .nilIface from h] at hv; cases hv
  | some (_, none), ⟨_, _, h⟩ => rw [h] at hv; simp [sv] at hv
  | some (_, some _), ⟨_, _, b', h, hb'⟩ =>
    rw [h] at hv
    simp only [Value.iface.injEq, Value.pointer.injEq, Option.some.injEq, Addr.mk.injEq, true_and, and_true] at hv
    subst hv
    rw [hb] at hb'
    simp at hb'
theorem QAt.fin_ok (h : QAt n se w w1 D rb x bq w.heap.size ba q v ak) (hl : ∀ t ∈ q.leaves, t.size ≤ 9223372036854775807) : DecQPostO se w (q, none) (.returned (.tuple #[.agg (qCells q v).toArray, .nilIface])) (w1.setRow w.heap.size (qCells q v).toArray) := by
  have U : Upd (one w.heap.size) w1 (w1.setRow w.heap.size (qCells q v).toArray) := (Upd.refl (one w.heap.size) w1).setRow (.inr rfl) _
  have ho := ownsRow_upd h.row U (fun g hk e => by cases e; have := (h.row.lt _ hk).1; have := h.lt; have := h.lt2; omega)
  have hlt := h.lt
  have hlt2 := h.lt2
  obtain ⟨a, cap, rfl, hh⟩ := texts_of_row ho hl
  exact ⟨a, cap, .nilIface, rfl, hh, rfl, h.r.e.setRow (.inl (Nat.le_refl _)) _, own_base ho (by omega)⟩
theorem QAt.fin_bad (h : QAt n se w w1 D rb x bq w.heap.size ba q v ak) {u : Value} {ee : EV} (hv : ErrIs se w1 u ee) : DecQPostO se w (zeroQ, ee) (.returned (.tuple #[.agg zeroQry.toArray, u])) (w1.setRow w.heap.size zeroQry.toArray) :=
  ⟨none, 0, u, rfl, TextsAt.nil _ _, hv.upd ((Upd.refl (one w.heap.size) w1).setRow (.inr rfl) _) (hv.notatQ h.z), h.r.e.setRow (.inl (Nat.le_refl _)) _, own_nil⟩
/-- .. and ahead of the query's variable. -/
theorem refuseQ (hz : w1.heap[w.heap.size]? = some (.cells zeroQry.toArray 27 (0, 0))) (he : Ext w w1) {u : Value} {ee : EV} (hv : ErrIs se w1 u ee) : DecQPostO se w (zeroQ, ee) (.returned (.tuple #[.agg zeroQry.toArray, u])) (w1.setRow w.heap.size zeroQry.toArray) :=
  ⟨none, 0, u, rfl, TextsAt.nil _ _, hv.upd ((Upd.refl (one w.heap.size) w1).setRow (.inr rfl) _) (hv.notatQ hz), he.setRow (.inl (Nat.le_refl _)) _, own_nil⟩
end
theorem idx_str1 (s : ByteArray) (c d : UInt8) (l : List UInt8) (h : s.data.toList = c :: d :: l) (W : World) : (Instr.index 9 (.string s) (.int .i64 1)).run Tryz.prog W = .ok (.int .u8 (d.toNat : Int)) W := by
  have hs : 1 < s.size := by have : s.data.toList.length = s.size := by rw [Array.length_toList]; rfl
                             rw [h] at this; simp at this; omega
  rw [run_index_string W 9 s .i64 1 Tryz.underlying9, dif_pos ⟨by omega, by omega⟩]
  congr 3
  have e : s.data.toList[1]? = some d := by rw [h]; rfl
  have : (s[1]'hs) = d := by
    have h2 : s.data[1]? = some d := by rw [← Array.getElem?_toList]; exact e
    have h3 : s.data[1]'hs = d := by
      have := Array.getElem?_eq_getElem (xs := s.data) (i := 1) hs
      rw [this] at h2; exact Option.some.inj h2
    exact h3
  exact congrArg (fun u : UInt8 => u.toNat) this
theorem fixed_two (s : ByteArray) (c d : UInt8) (l : List UInt8) (h : s.data.toList = c :: d :: l) : RdD.fixed ⟨s, 1, none⟩ 1 = (d.toNat, ⟨s, 2, none⟩) := by
  have hs : 2 ≤ s.size := by have : s.data.toList.length = s.size := by rw [Array.length_toList]; rfl
                             rw [h] at this; simp at this; omega
  have ht : RdD.take ⟨s, 1, none⟩ 1 1 = ([d], ⟨s, 2, none⟩) := by
    unfold RdD.take
    rw [if_pos ⟨rfl, by omega⟩]
    unfold RdD.rest
    simp [h]
  unfold RdD.fixed
  rw [if_neg (by omega), if_neg (fun h => h rfl)]
  show (beNum (RdD.take ⟨s, 1, none⟩ 1 ((1 : Nat) : Int)).1, (RdD.take ⟨s, 1, none⟩ 1 ((1 : Nat) : Int)).2) = _
  rw [show ((1 : Nat) : Int) = 1 from rfl, ht]
  simp [beNum]
end Go.Proofs.YtljnhelnmnomoaaGreatDoor
