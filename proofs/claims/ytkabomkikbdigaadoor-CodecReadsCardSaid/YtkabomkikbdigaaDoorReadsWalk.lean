/- The walk of CodecReads. -/
import Derived.Test.YtkabomkikbdigaaDoorReads
import Derived.Test.YtkabomkikbdigaaDoorAny
import Derived.Test.YtkabomkikbdigaaDoorTyped2
import Derived.Test.YtkabomkikbdigaaDoorWritesWalk
import Derived.StillTailTactics
import Derived.Deep.CutRange
namespace Go.Proofs.YtkabomkikbdigaaDoor
open Go.RowKit Go.Lib

/-- What the loop keeps. -/
structure RAt (n : Nat) (A : Nat → Prop) (se : Nat → Addr) (w w' : World) (r0 r1 a3 m0 m1 sb mb : Nat) (x y : Nat → RdD) : Prop where
  rd : Reads n A se w w' r0 r1 a3 m0 m1 x y
  sbk : w'.heap[sb]? = some (.cells (rptrRow r0 r1 a3) 52 (0, 0))
  mbk : w'.heap[mb]? = some (.cells (mptrRow m0 m1) 64 (0, 0))
  nsb : ¬ A sb
  nmb : ¬ A mb
/-- Which blocks may not be written behind one's back. -/
structure Far (n : Nat) (A : Nat → Prop) (a3 m0 m1 sb mb g : Nat) : Prop where
  lo : n ≤ g
  nA : ¬ A g
  h3 : g ≠ a3
  h0 : g ≠ m0
  h1 : g ≠ m1
  hs : g ≠ sb
  hm : g ≠ mb
theorem RAt.upd {n : Nat} {A S : Nat → Prop} {se : Nat → Addr} {w w1 w2 : World} {r0 r1 a3 m0 m1 sb mb : Nat} {x y : Nat → RdD} (h : RAt n A se w w1 r0 r1 a3 m0 m1 sb mb x y) (u : Upd S w1 w2) (hS : ∀ g, S g → Far n A a3 m0 m1 sb mb g) : RAt n A se w w2 r0 r1 a3 m0 m1 sb mb x y :=
  ⟨h.rd.upd u (fun k hk => ⟨(hS k hk).lo, (hS k hk).nA, (hS k hk).h3, (hS k hk).h0, (hS k hk).h1⟩), u.blk h.sbk (fun hk => (hS _ hk).hs rfl), u.blk h.mbk (fun hk => (hS _ hk).hm rfl), h.nsb, h.nmb⟩
theorem RAt.ext {n : Nat} {A : Nat → Prop} {se : Nat → Addr} {w w1 w2 : World} {r0 r1 a3 m0 m1 sb mb : Nat} {x y : Nat → RdD} (h : RAt n A se w w1 r0 r1 a3 m0 m1 sb mb x y) (u : Ext w1 w2) : RAt n A se w w2 r0 r1 a3 m0 m1 sb mb x y := h.upd u (fun _ hk => hk.elim)
/-- A block that is new is far. -/
theorem RAt.far {n : Nat} {A : Nat → Prop} {se : Nat → Addr} {w w1 : World} {r0 r1 a3 m0 m1 sb mb : Nat} {x y : Nat → RdD} (h : RAt n A se w w1 r0 r1 a3 m0 m1 sb mb x y) (g : Nat) (hg : w1.heap.size ≤ g) : Far n A a3 m0 m1 sb mb g := by
  have h1 := lt_of_blk h.rd.un
  have h2 := lt_of_blk h.rd.f0.blk
  have h3 := lt_of_blk h.rd.f1.blk
  have h4 := lt_of_blk h.sbk
  have h5 := lt_of_blk h.mbk
  have h6 := h.rd.g.size
  exact ⟨by omega, fun hA => by have := h.rd.hA g hA; omega, by omega, by omega, by omega, by omega, by omega⟩
theorem Far.plus {n : Nat} {A : Nat → Prop} {a3 m0 m1 sb mb g p q : Nat} (h : Far n A a3 m0 m1 sb mb g) (hg : g < p) : Far n (plus A p q) a3 m0 m1 sb mb g :=
  ⟨h.lo, fun hk => hk.elim h.nA (fun hk => by omega), h.h3, h.h0, h.h1, h.hs, h.hm⟩
theorem RAt.took {n : Nat} {A : Nat → Prop} {se : Nat → Addr} {w w1 w2 : World} {r0 r1 a3 m0 m1 sb mb : Nat} {x x' y : Nat → RdD} (h : RAt n A se w w1 r0 r1 a3 m0 m1 sb mb x y) (hr : Reads n (plus A w1.heap.size w2.heap.size) se w w2 r0 r1 a3 m0 m1 x' y) (u : Upd A w1 w2) : RAt n (plus A w1.heap.size w2.heap.size) se w w2 r0 r1 a3 m0 m1 sb mb x' y := by
  have h4 := lt_of_blk h.sbk
  have h5 := lt_of_blk h.mbk
  exact ⟨hr, u.blk h.sbk h.nsb, u.blk h.mbk h.nmb, fun hk => hk.elim h.nsb (fun hk => by omega), fun hk => hk.elim h.nmb (fun hk => by omega)⟩
theorem RAt.start {B : Nat} {se : Nat → Addr} {w w' : World} (G : Genv B se w) (s1 s2 : ByteArray) (h1 : s1.size ≤ 9223372036854775807) (h2 : s2.size ≤ 9223372036854775807)
    (hw : w' = ((((((w.alloc (.cells #[.string s1, .int .i64 0, .nilIface, .bool true] 62)).alloc (.cells #[.string s2, .int .i64 0, .nilIface, .bool true] 62)).alloc (.cells #[.string ⟨#[]⟩, .int .i64 0, .nilIface, .bool false] 62)).alloc
      (.cells (rptrRow w.heap.size (w.heap.size + 1) (w.heap.size + 1 + 1)) 52)).alloc (.cells (refRow ⟨s1, 0, none⟩) 66)).alloc (.cells (refRow ⟨s2, 0, none⟩) 66)).alloc (.cells (mptrRow (w.heap.size + 1 + 1 + 1 + 1) (w.heap.size + 1 + 1 + 1 + 1 + 1)) 64)) :
    RAt w.heap.size (fun k => k = w.heap.size ∨ k = w.heap.size + 1) se w w' w.heap.size (w.heap.size + 1) (w.heap.size + 1 + 1) (w.heap.size + 1 + 1 + 1 + 1) (w.heap.size + 1 + 1 + 1 + 1 + 1) (w.heap.size + 1 + 1 + 1) (w.heap.size + 1 + 1 + 1 + 1 + 1 + 1) (fun k => if k = 0 then ⟨s1, 0, none⟩ else ⟨s2, 0, none⟩) (fun k => if k = 0 then ⟨s1, 0, none⟩ else ⟨s2, 0, none⟩) := by
  subst hw
  generalize hc1 : (Obj.cells #[.string s1, .int .i64 0, .nilIface, .bool true] 62) = c1
  generalize hc2 : (Obj.cells #[.string s2, .int .i64 0, .nilIface, .bool true] 62) = c2
  generalize hc3 : (Obj.cells #[.string ⟨#[]⟩, .int .i64 0, .nilIface, .bool false] 62) = c3
  generalize hc4 : (Obj.cells (rptrRow w.heap.size (w.heap.size + 1) (w.heap.size + 1 + 1)) 52) = c4
  generalize hc5 : (Obj.cells (refRow ⟨s1, 0, none⟩) 66) = c5
  generalize hc6 : (Obj.cells (refRow ⟨s2, 0, none⟩) 66) = c6
  generalize hc7 : (Obj.cells (mptrRow (w.heap.size + 1 + 1 + 1 + 1) (w.heap.size + 1 + 1 + 1 + 1 + 1)) 64) = c7
  have X := ((((((((Upd.refl none' w).alloc c1).alloc c2).alloc c3).alloc c4).alloc c5).alloc c6).alloc c7)
  have b1 := blk_alloc_lt (blk_alloc_lt (blk_alloc_lt (blk_alloc_lt (blk_alloc_lt (blk_alloc_lt (blk_alloc w c1) c2) c3) c4) c5) c6) c7
  have b2 := blk_alloc_lt (blk_alloc_lt (blk_alloc_lt (blk_alloc_lt (blk_alloc_lt (blk_alloc (w.alloc c1) c2) c3) c4) c5) c6) c7
  have b3 := blk_alloc_lt (blk_alloc_lt (blk_alloc_lt (blk_alloc_lt (blk_alloc ((w.alloc c1).alloc c2) c3) c4) c5) c6) c7
  have b4 := blk_alloc_lt (blk_alloc_lt (blk_alloc_lt (blk_alloc (((w.alloc c1).alloc c2).alloc c3) c4) c5) c6) c7
  have b5 := blk_alloc_lt (blk_alloc_lt (blk_alloc ((((w.alloc c1).alloc c2).alloc c3).alloc c4) c5) c6) c7
  have b6 := blk_alloc_lt (blk_alloc (((((w.alloc c1).alloc c2).alloc c3).alloc c4).alloc c5) c6) c7
  have b7 := blk_alloc ((((((w.alloc c1).alloc c2).alloc c3).alloc c4).alloc c5).alloc c6) c7
  simp only [World.size_alloc] at b2 b3 b4 b5 b6 b7
  have hsz : (((((((w.alloc c1).alloc c2).alloc c3).alloc c4).alloc c5).alloc c6).alloc c7).heap.size = w.heap.size + 7 := by simp
  generalize (((((((w.alloc c1).alloc c2).alloc c3).alloc c4).alloc c5).alloc c6).alloc c7) = w' at *
  subst hc1 hc2 hc3 hc4 hc5 hc6 hc7
  have R0 : Reader w.heap.size se w' (one w.heap.size) w.heap.size ⟨s1, 0, none⟩ :=
    ⟨⟨.nilIface, 0, b1, Nat.zero_le _, fun _ => rfl, rfl, fun b h => by cases h⟩, h1, rfl, fun k hk => by have e : k = w.heap.size := hk; omega, fun k hk => by have e : k = w.heap.size := hk; omega⟩
  have R1 : Reader w.heap.size se w' (one (w.heap.size + 1)) (w.heap.size + 1) ⟨s2, 0, none⟩ :=
    ⟨⟨.nilIface, 0, b2, Nat.zero_le _, fun _ => rfl, rfl, fun b h => by cases h⟩, h2, rfl, fun k hk => by have e : k = w.heap.size + 1 := hk; omega, fun k hk => by have e : k = w.heap.size + 1 := hk; omega⟩
  refine ⟨⟨(G.up G.size (Nat.le_refl _)).ext X, X, Nat.le_refl _, fun k hk => by omega, b3, by omega, ⟨_, _, R0, R1, fun k e1 e2 => ?_, fun k e => .inl e, fun k e => .inr e⟩, ⟨b5, Nat.zero_le _, h1, fun k p h => by cases h⟩, ⟨b6, Nat.zero_le _, h2, fun k p h => by cases h⟩, by omega, by omega, ⟨by omega, by omega, by omega, by omega, by omega⟩, fun k => by
      show FOk (if k = 0 then (⟨s1, 0, none⟩ : RdD) else ⟨s2, 0, none⟩).f
      split <;> exact fun k n h => by cases h⟩, b4, b7, by omega, by omega⟩
  have e1 : k = w.heap.size := e1
  have e2 : k = w.heap.size + 1 := e2
  omega
/-- Ahead of the read, and behind it. -/
structure RBef (n : Nat) (A : Nat → Prop) (se : Nat → Addr) (w w' : World) (r0 r1 a3 m0 m1 sb mb : Nat) (x y : Nat → RdD) (b : Nat) (t : ThingD) : Prop where
  W : RAt n A se w w' r0 r1 a3 m0 m1 sb mb x y
  tb : w'.heap[b]? = some (.cells (thingCells t).toArray 36 (0, 0))
  fb : Far n A a3 m0 m1 sb mb b
structure RMid (n : Nat) (A : Nat → Prop) (se : Nat → Addr) (w w' : World) (r0 r1 a3 m0 m1 sb mb : Nat) (x y : Nat → RdD) (b g : Nat) (t u : ThingD) : Prop where
  bf : RBef n A se w w' r0 r1 a3 m0 m1 sb mb x y b t
  gb : w'.heap[g]? = some (.cells (thingCells u).toArray 36 (0, 0))
  fg : Far n A a3 m0 m1 sb mb g
  ne : g ≠ b
section
variable {n : Nat} {A : Nat → Prop} {se : Nat → Addr} {w w1 w2 : World} {r0 r1 a3 m0 m1 sb mb b g k : Nat} {x y : Nat → RdD} {t u : ThingD}
theorem RBef.upd {S : Nat → Prop} (h : RBef n A se w w1 r0 r1 a3 m0 m1 sb mb x y b t) (v : Upd S w1 w2) (hS : ∀ g, S g → Far n A a3 m0 m1 sb mb g ∧ g ≠ b) : RBef n A se w w2 r0 r1 a3 m0 m1 sb mb x y b t :=
  ⟨h.W.upd v (fun g hg => (hS g hg).1), v.blk h.tb (fun hk => (hS _ hk).2 rfl), h.fb⟩
theorem RBef.slot (h : RBef n A se w w1 r0 r1 a3 m0 m1 sb mb x y b t) (hk : k < 4) : w1.cell? ⟨sb, k, none⟩ = some (rptr r0 r1 a3 k) := (cell_of_blk h.W.sbk k).trans (rptrRow_at r0 r1 a3 k hk)
theorem RBef.thing (h : RBef n A se w w1 r0 r1 a3 m0 m1 sb mb x y b t) (j : Nat) (v : Value) (hj : (thingCells t)[j]? = some v) : w1.cell? ⟨b, 0 + j, none⟩ = some v := by
  rw [Nat.zero_add]
  exact (cell_of_blk h.tb j).trans (by simpa using hj)
theorem RBef.alloc (h : RBef n A se w w1 r0 r1 a3 m0 m1 sb mb x y b t) : RMid n A se w (w1.alloc (.cells zero37 36)) r0 r1 a3 m0 m1 sb mb x y b w1.heap.size t (zeroT 0) := by
  have X := (Upd.refl none' w1).alloc (.cells zero37 36)
  exact ⟨h.upd X (fun _ hk => hk.elim), blk_alloc w1 _, h.W.far _ (Nat.le_refl _), by have := lt_of_blk h.tb; omega⟩
theorem RBef.took (h : RBef n A se w w1 r0 r1 a3 m0 m1 sb mb x y b t) (hk : k < 4) (ht : t.Ok) :
    Calls Tryd.prog 31 #[rptr r0 r1 a3 k, .agg (thingCells t).toArray] w1 fun e w' => ∃ v, e = .returned v ∧ (v = .agg (thingCells (resK x k t)).toArray ∧ ∃ A', RBef n A' se w w' r0 r1 a3 m0 m1 sb mb (stepK x k t) y b t) := by
  refine (h.W.rd.took k hk t ht).mono ?_
  rintro e w' ⟨rfl, hr, u⟩
  exact ⟨_, rfl, rfl, _, h.W.took hr u, u.blk h.tb h.fb.nA, h.fb.plus (lt_of_blk h.tb)⟩
theorem RMid.took (h : RMid n A se w w1 r0 r1 a3 m0 m1 sb mb x y b g t u) (hk : k < 4) (ht : t.Ok) :
    Calls Tryd.prog 31 #[rptr r0 r1 a3 k, .agg (thingCells t).toArray] w1 fun e w' => ∃ v, e = .returned v ∧ (v = .agg (thingCells (resK x k t)).toArray ∧ ∃ A', RMid n A' se w w' r0 r1 a3 m0 m1 sb mb (stepK x k t) y b g t u) := by
  refine (h.bf.W.rd.took k hk t ht).mono ?_
  rintro e w' ⟨rfl, hr, u⟩
  exact ⟨_, rfl, rfl, _, ⟨h.bf.W.took hr u, u.blk h.bf.tb h.bf.fb.nA, h.bf.fb.plus (lt_of_blk h.bf.tb)⟩, u.blk h.gb h.fg.nA, h.fg.plus (lt_of_blk h.gb), h.ne⟩
theorem RMid.set (h : RMid n A se w w1 r0 r1 a3 m0 m1 sb mb x y b g t u) (u' : ThingD) : RMid n A se w (w1.setRow g (thingCells u').toArray) r0 r1 a3 m0 m1 sb mb x y b g t u' := by
  have X : Upd (one g) w1 (w1.setRow g (thingCells u').toArray) := (Upd.refl (one g) w1).setRow (.inr (show one _ _ from rfl)) _
  exact ⟨h.bf.upd X (fun k hk => by have e : k = g := hk; subst e; exact ⟨h.fg, h.ne⟩), blk_setRow h.gb _, h.fg, h.ne⟩
theorem RAt.resOk (h : RAt n A se w w1 r0 r1 a3 m0 m1 sb mb x x) (ht : t.Ok) (hk : k < 4) : (resK x k t).Ok := by
  unfold resK
  split
  · rename_i h2
    refine took_okD _ _ ht ?_
    match k, h2 with
    | 0, _ => exact h.rd.f0.sz
    | 1, _ => exact h.rd.f1.sz
  · exact bare_ok _ _ (by omega) (by omega) (by have := ht.wd1; split <;> omega) (by have := ht.wd2; split <;> omega)
end
/-- .. ahead of the comparisons. -/
structure RFin (n : Nat) (A : Nat → Prop) (se : Nat → Addr) (w w' : World) (r0 r1 a3 m0 m1 sb mb : Nat) (x y : Nat → RdD) (b g h q : Nat) (t u v : ThingD) (f : EV) : Prop where
  mid : RMid n A se w w' r0 r1 a3 m0 m1 sb mb x y b g t u
  hb : w'.heap[h]? = some (.cells (thingCells v).toArray 36 (0, 0))
  qb : w'.heap[q]? = some (.cells (fcells f).toArray 39 (0, 0))
  fh : Far n A a3 m0 m1 sb mb h
  fq : Far n A a3 m0 m1 sb mb q
  ne : h ≠ b ∧ h ≠ g ∧ q ≠ b ∧ q ≠ g ∧ q ≠ h
section
variable {n : Nat} {A : Nat → Prop} {se : Nat → Addr} {w w1 w2 w3 : World} {r0 r1 a3 m0 m1 sb mb b g h' q k : Nat} {x y : Nat → RdD} {t u v : ThingD} {f : EV}
theorem RMid.upd {S : Nat → Prop} (h : RMid n A se w w1 r0 r1 a3 m0 m1 sb mb x y b g t u) (X : Upd S w1 w2) (hS : ∀ k, S k → Far n A a3 m0 m1 sb mb k ∧ k ≠ b ∧ k ≠ g) : RMid n A se w w2 r0 r1 a3 m0 m1 sb mb x y b g t u :=
  ⟨h.bf.upd X (fun k hk => ⟨(hS k hk).1, (hS k hk).2.1⟩), X.blk h.gb (fun hk => (hS _ hk).2.2 rfl), h.fg, h.ne⟩
theorem RFin.upd {S : Nat → Prop} (h : RFin n A se w w1 r0 r1 a3 m0 m1 sb mb x y b g h' q t u v f) (X : Upd S w1 w2) (hS : ∀ k, S k → Far n A a3 m0 m1 sb mb k ∧ k ≠ b ∧ k ≠ g ∧ k ≠ h' ∧ k ≠ q) : RFin n A se w w2 r0 r1 a3 m0 m1 sb mb x y b g h' q t u v f :=
  ⟨h.mid.upd X (fun k hk => ⟨(hS k hk).1, (hS k hk).2.1, (hS k hk).2.2.1⟩), X.blk h.hb (fun hk => (hS _ hk).2.2.2.1 rfl), X.blk h.qb (fun hk => (hS _ hk).2.2.2.2 rfl), h.fh, h.fq, h.ne⟩
theorem RFin.ext (h : RFin n A se w w1 r0 r1 a3 m0 m1 sb mb x y b g h' q t u v f) (X : Ext w1 w2) : RFin n A se w w2 r0 r1 a3 m0 m1 sb mb x y b g h' q t u v f := h.upd X (fun _ hk => hk.elim)
theorem RMid.fin (h : RMid n A se w w1 r0 r1 a3 m0 m1 sb mb x y b g t u) (v : ThingD) (X : Ext (w1.alloc (.cells (thingCells v).toArray 36)) w3) (f : EV) :
    RFin n A se w (w3.alloc (.cells (fcells f).toArray 39)) r0 r1 a3 m0 m1 sb mb x y b g w1.heap.size w3.heap.size t u v f := by
  have X1 := (Upd.refl none' w1).alloc (.cells (thingCells v).toArray 36)
  have X3 := (Upd.refl none' w3).alloc (.cells (fcells f).toArray 39)
  have M1 := h.upd X1 (fun _ hk => hk.elim)
  have M3 := M1.upd X (fun _ hk => hk.elim)
  have l1 := lt_of_blk h.bf.tb
  have l2 := lt_of_blk h.gb
  have l3 := X.size
  simp only [World.size_alloc] at l3
  exact ⟨M3.upd X3 (fun _ hk => hk.elim), Ext.blk X3 (Ext.blk X (blk_alloc w1 _)), blk_alloc w3 _, h.bf.W.far _ (Nat.le_refl _), M3.bf.W.far _ (Nat.le_refl _), by omega, by omega, by omega, by omega, by omega⟩
theorem RFin.setH (h : RFin n A se w w1 r0 r1 a3 m0 m1 sb mb x y b g h' q t u v f) (v' : ThingD) : RFin n A se w (w1.setRow h' (thingCells v').toArray) r0 r1 a3 m0 m1 sb mb x y b g h' q t u v' f := by
  have X : Upd (one h') w1 (w1.setRow h' (thingCells v').toArray) := (Upd.refl (one h') w1).setRow (.inr (show one _ _ from rfl)) _
  obtain ⟨n1, n2, n3, n4, n5⟩ := h.ne
  exact ⟨h.mid.upd X (fun k hk => by have e : k = h' := hk; subst e; exact ⟨h.fh, n1, n2⟩), blk_setRow h.hb _, X.blk h.qb (fun hk => n5 hk), h.fh, h.fq, h.ne⟩
theorem RFin.setQ (h : RFin n A se w w1 r0 r1 a3 m0 m1 sb mb x y b g h' q t u v f) (f' : EV) : RFin n A se w (w1.setRow q (fcells f').toArray) r0 r1 a3 m0 m1 sb mb x y b g h' q t u v f' := by
  have X : Upd (one q) w1 (w1.setRow q (fcells f').toArray) := (Upd.refl (one q) w1).setRow (.inr (show one _ _ from rfl)) _
  obtain ⟨n1, n2, n3, n4, n5⟩ := h.ne
  exact ⟨h.mid.upd X (fun k hk => by have e : k = q := hk; subst e; exact ⟨h.fq, n3, n4⟩), X.blk h.hb (fun hk => n5 (Eq.symm hk)), blk_setRow h.qb _, h.fh, h.fq, h.ne⟩
theorem RFin.meant (h : RFin n A se w w1 r0 r1 a3 m0 m1 sb mb x y b g h' q t u v f) (hk : k < 2) (ht : t.Ok) :
    Calls Tryd.prog 32 #[mptr m0 m1 k, .agg (thingCells t).toArray] w1 fun e w' => e = .returned (.agg (thingCells (tookD (y k) t).1).toArray) ∧ RFin n A se w w' r0 r1 a3 m0 m1 sb mb x (nextK y k t) b g h' q t u v f := by
  refine (h.mid.bf.W.rd.meant k hk t ht).mono ?_
  rintro e w' ⟨rfl, hr, X⟩
  have far : ∀ c, Far n A a3 m0 m1 sb mb c → ¬ (c = m0 ∨ c = m1) := fun c hc hk => hk.elim hc.h0 hc.h1
  have hs : ∀ c, c = sb ∨ c = mb → ¬ (c = m0 ∨ c = m1) := fun c hc hk => by
    have k1 := h.mid.bf.W.sbk
    have k2 := h.mid.bf.W.mbk
    have k3 := h.mid.bf.W.rd.f0.blk
    have k4 := h.mid.bf.W.rd.f1.blk
    rcases hc with rfl | rfl <;> rcases hk with rfl | rfl <;> (simp only [k1, k2] at k3 k4; simp at k3 k4)
  exact ⟨rfl, ⟨⟨⟨hr, X.blk h.mid.bf.W.sbk (hs _ (.inl rfl)), X.blk h.mid.bf.W.mbk (hs _ (.inr rfl)), h.mid.bf.W.nsb, h.mid.bf.W.nmb⟩, X.blk h.mid.bf.tb (far _ h.mid.bf.fb), h.mid.bf.fb⟩, X.blk h.mid.gb (far _ h.mid.fg), h.mid.fg, h.mid.ne⟩, X.blk h.hb (far _ h.fh), X.blk h.qb (far _ h.fq), h.fh, h.fq, h.ne⟩
theorem RFin.setH' (h : RFin n A se w w1 r0 r1 a3 m0 m1 sb mb x y b g h' q t u v f) (v' : ThingD) (e : (thingCells v).length = (thingCells v').length) : RFin n A se w (w1.setRow h' (over (thingCells v) 0 (thingCells v')).toArray) r0 r1 a3 m0 m1 sb mb x y b g h' q t u v' f := by
  rw [over_all _ _ e]
  exact h.setH v'
theorem RFin.setQ' (h : RFin n A se w w1 r0 r1 a3 m0 m1 sb mb x y b g h' q t u v f) (f' : EV) : RFin n A se w (w1.setRow q (over (fcells f) 0 (fcells f')).toArray) r0 r1 a3 m0 m1 sb mb x y b g h' q t u v f' := by
  rw [over_all (fcells f) (fcells f') rfl]
  exact h.setQ f'
theorem RFin.mleft (h : RFin n A se w w1 r0 r1 a3 m0 m1 sb mb x y b g h' q t u v f) (hk : k < 2) : Calls Tryd.prog 33 #[mptr m0 m1 k] w1 fun e w' => e = .returned (.int .i64 (y k).left) ∧ RFin n A se w w' r0 r1 a3 m0 m1 sb mb x y b g h' q t u v f :=
  (h.mid.bf.W.rd.mleft k hk).mono (by rintro e w' ⟨rfl, X⟩; exact ⟨rfl, h.ext X⟩)
theorem RFin.mend (h : RFin n A se w w1 r0 r1 a3 m0 m1 sb mb x y b g h' q t u v f) (hk : k < 2) : Calls Tryd.prog 34 #[mptr m0 m1 k] w1 fun e w' => e = .returned (faultV (y k).fin) ∧ RFin n A se w w' r0 r1 a3 m0 m1 sb mb x y b g h' q t u v f :=
  (h.mid.bf.W.rd.mend k hk).mono (by rintro e w' ⟨rfl, X⟩; exact ⟨rfl, h.ext X⟩)
theorem RBef.mslot (h : RBef n A se w w1 r0 r1 a3 m0 m1 sb mb x y b t) (hk : k < 2) : w1.cell? ⟨mb, k, none⟩ = some (mptr m0 m1 k) := (cell_of_blk h.W.mbk k).trans (mptrRow_at m0 m1 k hk)
end
theorem any_norm {P : Program} {md : Region.Mode} {ops : Array Oper} {Q : Exit → Act → World → Prop} {n : Nat} {listed : Array Bool} {a a' : Act} {w : World} (h : a = a') (k : wpAny P md ops Q n listed a' w) : wpAny P md ops Q n listed a w := by
  subst h
  exact k
theorem op_alloc' {P : Program} {ops : Array Oper} {a : Act} {w : World} {i : Nat} {o : Oper} {K : Act → World → Prop} {Q : Exit → Act → World → Prop} (hi : ops[i]? = some o) (hw : Region.wanted o (yielded ops a.tmps) = true) (ty : TypeId) (ho : o.op = .alloc ty) (z : Value) (hz : (P.info? ty).bind (·.zero) = some z)
    (cs : Array Value) (hc : z.cells = cs) (h : K (a.put o.dst (.pointer (some ⟨w.heap.size, 0, none⟩))) (w.alloc (.cells cs ty))) : wpOp P ops Q i K a w := by
  subst hc
  exact op_alloc hi hw ty ho z hz h
theorem rptr_size : (Tryd.prog.info? 52).map (·.size) = some 1 := by kernel_rfl
theorem mptr_size : (Tryd.prog.info? 64).map (·.size) = some 1 := by kernel_rfl
theorem body_left : hasBody Tryd.prog 29 = true := by kernel_rfl
theorem body_mleft : hasBody Tryd.prog 33 = true := by kernel_rfl
theorem body_mend : hasBody Tryd.prog 34 = true := by kernel_rfl
theorem body_lives : hasBody Tryd.prog 20 = true := by kernel_rfl
theorem body_end : hasBody Tryd.prog 27 = true := by kernel_rfl
set_option maxRecDepth 8000 in
set_option maxHeartbeats 4000000 in
/-- CodecReads. -/
theorem reads_any {B : Nat} {se : Nat → Addr} {w : World} (G : Genv B se w) (s1 s2 : ByteArray) (hs1 : s1.size ≤ 9223372036854775807) (hs2 : s2.size ≤ 9223372036854775807) {a : Option Addr} {ts : List ThingD} (ca : Nat) (hx : ThingsAt w a ts) (hll : ts.length ≤ 9223372036854775807) :
    Calls Tryd.prog 6 #[.string s1, .string s2, .slice a ts.length ca] w fun e w' => e = .returned (.bool true) ∧ Ext w w' := by
  have HG := Lib.hid G
  have HXS := Lib.hid hx
  have ST := RAt.start G s1 s2 hs1 hs2 rfl
  have HST := Lib.hid ST
  clear G hx ST
  go_enter Tryd.func6, Tryd.ntmps6
  go_wp2_with fail
  refine (newReader_ok s1 w).mono ?_
  rintro e w1 ⟨rfl, rfl⟩
  go_wp2_with fail
  refine (newReader_ok s2 _).mono ?_
  rintro e w1 ⟨rfl, rfl⟩
  go_wp2_with fail
  generalize (fun k => k = w.heap.size ∨ k = w.heap.size + 1) = A0 at HST
  generalize (fun k => if k = 0 then (⟨s1, 0, none⟩ : RdD) else ⟨s2, 0, none⟩) = x0 at HST
  generalize w.heap.size + 1 + 1 + 1 + 1 + 1 + 1 = mb at HST ⊢
  generalize w.heap.size + 1 + 1 + 1 + 1 + 1 = m1 at HST ⊢
  generalize w.heap.size + 1 + 1 + 1 + 1 = m0 at HST ⊢
  generalize w.heap.size + 1 + 1 + 1 = sb at HST ⊢
  generalize w.heap.size + 1 + 1 = a3 at HST ⊢
  go_loopw [10] (fun iv wr => ∃ (i : Nat) (A : Nat → Prop) (x : Nat → RdD), iv = .int .i64 i ∧ i ≤ ts.length ∧ RAt w.heap.size A se w wr w.heap.size (w.heap.size + 1) a3 m0 m1 sb mb x x) (fun iv _ => ts.length - (intOf iv).toNat)
  case atStart => exact ⟨0, A0, x0, rfl, Nat.zero_le _, HST.out⟩
  case round =>
    obtain ⟨i, A, x, rfl, hi, W⟩ := hrel
    have HW := Lib.hid W
    clear W HST
    by_cases hlt : i < ts.length
    · obtain ⟨t, tb, tq, ht, hok, rfl, hc⟩ := thing_of_row (HXS.out.later HW.out.rd.e) hlt
      have HOK := Lib.hid hok
      have hkk : ∃ k : Nat, t.who % 4 = k ∧ k < 4 := ⟨(t.who % 4).toNat, by omega, by omega⟩
      obtain ⟨k, hk, hk4⟩ := hkk
      have hk4i : (k : Int) < 4 := by omega
      have hb := blk_alloc wr (.cells (thingCells t).toArray 36)
      have X := (Upd.refl none' wr).alloc (.cells (thingCells t).toArray 36)
      have c0 := (thing_cells hb).1
      have R := round_any t.who (wr.alloc (.cells (thingCells t).toArray 36)) hok.who1 hok.who2
      rw [hk] at R
      have HR := Lib.hid R
      have HSZ := Lib.hid (thing_size' t hok.h)
      have HCS := Lib.hid hc
      have H1 := Lib.hid (one_cells t)
      have HZ := Lib.hid (show zero37.size = (thingCells t).length by rw [thingCells_len _ hok.h]; rfl)
      have HB := Lib.hid hb
      have HWX := Lib.hid (HW.out.ext X)
      have HF7 := Lib.hid (HW.out.far wr.heap.size (Nat.le_refl _))
      have HRO := Lib.hid (HW.out.resOk (k := k) hok hk4)
      have HSR := Lib.hid (thing_size' (resK x k t) HRO.out.h)
      have HZR := Lib.hid (show (thingCells (zeroT 0)).length = (thingCells (resK x k t)).length by rw [thingCells_len _ HRO.out.h]; rfl)
      clear hc ht hok hb X R hk
      go_upto_region 11 with (first
        | (refine wpList_storeNew rfl 36 _ _ rfl _ _ rfl (thingCells t) rfl HSZ.out HZ.out H1.out ?_)
        | (refine wpList_loadAgg rfl 36 _ rfl tb (tq + i * 37) rfl (thingCells t) Tryd.underlying36 rfl HSZ.out HCS.out ?_)
        | (go_at_call 14; refine HR.out.mono ?_; rintro e w2 ⟨rfl, rfl⟩))
      go_cut [13] from 41 to 124 (fun gv wx => ∃ (g : Nat) (A' : Nat → Prop), gv = .pointer (some ⟨g, 0, none⟩) ∧ RMid w.heap.size A' se w wx w.heap.size (w.heap.size + 1) a3 m0 m1 sb mb (stepK x k t) x wr.heap.size g t (resK x k t))
      case first =>
        refine wp_region_any (by kernel_rfl) ?_
        change wpAny _ _ _ _ _ _ _ (World.drew _)
        have H0 : Hid (RBef w.heap.size A se w (wr.alloc (.cells (thingCells t).toArray 36)).drew w.heap.size (w.heap.size + 1) a3 m0 m1 sb mb x x wr.heap.size t) := Lib.hid ⟨HWX.out.ext ((Upd.refl none' _).drew), ((Upd.refl none' _).drew).blk HB.out (fun hk => hk.elim), HF7.out⟩
        generalize (wr.alloc (Obj.cells (thingCells t).toArray 36)).drew = wd at H0 ⊢
        (refine wpAny_take (i := 0) (v := ?_) rfl (by kernel_rfl) (by kernel_rfl) (by kernel_rfl) (fun _ _ _ h => h) (Or.inl ⟨by rfl, ?_⟩) ?_; rotate_left; (· (intro w; go_simp; all_goals (with_reducible rfl))); refine any_norm (by go_simp; all_goals exact rfl) ?_)
        (refine wpAny_take (i := 1) (v := ?_) rfl (by kernel_rfl) (by kernel_rfl) (by kernel_rfl) (fun _ _ _ h => h) (Or.inl ⟨by rfl, ?_⟩) ?_; rotate_left; (· (intro w; go_simp; all_goals (with_reducible rfl))); refine any_norm (by go_simp; all_goals exact rfl) ?_)
        (refine wpAny_take (i := 2) (v := ?_) rfl (by kernel_rfl) (by kernel_rfl) (by kernel_rfl) (fun _ _ _ h => h) (Or.inl ⟨by rfl, ?_⟩) ?_; rotate_left; (· (intro w; go_simp; all_goals (with_reducible rfl))); refine any_norm (by go_simp; all_goals exact rfl) ?_)
        refine any3 3 4 6 (by kernel_rfl) ?_ ?_ ?_
        · (refine op_load1 rfl (by rfl) rfl ⟨sb, k, none⟩ (rptr w.heap.size (w.heap.size + 1) a3 k) rfl rfl rfl (by first | exact H0.out.slot hk4 | exact H0.out.bf.slot hk4) ?_; refine any_norm (by go_simp; all_goals exact rfl) ?_)
          refine any2 4 6 (by kernel_rfl) ?_ ?_
          · (refine op_loadAgg rfl (by rfl) 36 _ rfl wr.heap.size 0 rfl (thingCells t) rfl rfl HSZ.out (by first | exact H0.out.thing | exact H0.out.bf.thing) ?_; refine any_norm (by go_simp; all_goals exact rfl) ?_)
            refine any2 5 6 (by kernel_rfl) ?_ ?_
            · (refine op_callf rfl (by rfl) 31 _ _ rfl (by kernel_rfl) [rptr w.heap.size (w.heap.size + 1) a3 k, .agg (thingCells t).toArray] rfl (H0.out.took hk4 HOK.out) ?_; rintro v w2 ⟨rfl, A2, B2⟩; replace H0 := Lib.hid B2; clear B2; refine any_norm (by go_simp; all_goals exact rfl) ?_)
              refine any1 6 (by kernel_rfl) ?_
              (refine op_alloc' rfl (by rfl) 36 rfl (.agg zero37) (by kernel_rfl) zero37 rfl ?_; replace H0 := Lib.hid H0.out.alloc; refine any_norm (by go_simp; all_goals exact rfl) ?_)
              refine any1 7 (by kernel_rfl) ?_
              (refine op_storeAgg rfl (by rfl) 36 _ _ rfl _ rfl (thingCells (resK x k t)) rfl HSR.out (thingCells (zeroT 0)) _ H0.out.gb HZR.out (one_cells _) ?_; replace H0 := Lib.hid (H0.out.set (resK x k t)); refine any_norm (by go_simp; all_goals exact rfl) ?_)
              (refine wpAny_done (by kernel_rfl) ?_ _; go_wp2_with fail; go_meet; exact ⟨_, _, rfl, H0.out⟩)
            · (refine op_alloc' rfl (by rfl) 36 rfl (.agg zero37) (by kernel_rfl) zero37 rfl ?_; replace H0 := Lib.hid H0.out.alloc; refine any_norm (by go_simp; all_goals exact rfl) ?_)
              refine any1 5 (by kernel_rfl) ?_
              (refine op_callf rfl (by rfl) 31 _ _ rfl (by kernel_rfl) [rptr w.heap.size (w.heap.size + 1) a3 k, .agg (thingCells t).toArray] rfl (H0.out.took hk4 HOK.out) ?_; rintro v w2 ⟨rfl, A2, B2⟩; replace H0 := Lib.hid B2; clear B2; refine any_norm (by go_simp; all_goals exact rfl) ?_)
              refine any1 7 (by kernel_rfl) ?_
              (refine op_storeAgg rfl (by rfl) 36 _ _ rfl _ rfl (thingCells (resK x k t)) rfl HSR.out (thingCells (zeroT 0)) _ H0.out.gb HZR.out (one_cells _) ?_; replace H0 := Lib.hid (H0.out.set (resK x k t)); refine any_norm (by go_simp; all_goals exact rfl) ?_)
              (refine wpAny_done (by kernel_rfl) ?_ _; go_wp2_with fail; go_meet; exact ⟨_, _, rfl, H0.out⟩)
          · (refine op_alloc' rfl (by rfl) 36 rfl (.agg zero37) (by kernel_rfl) zero37 rfl ?_; replace H0 := Lib.hid H0.out.alloc; refine any_norm (by go_simp; all_goals exact rfl) ?_)
            refine any1 4 (by kernel_rfl) ?_
            (refine op_loadAgg rfl (by rfl) 36 _ rfl wr.heap.size 0 rfl (thingCells t) rfl rfl HSZ.out (by first | exact H0.out.thing | exact H0.out.bf.thing) ?_; refine any_norm (by go_simp; all_goals exact rfl) ?_)
            refine any1 5 (by kernel_rfl) ?_
            (refine op_callf rfl (by rfl) 31 _ _ rfl (by kernel_rfl) [rptr w.heap.size (w.heap.size + 1) a3 k, .agg (thingCells t).toArray] rfl (H0.out.took hk4 HOK.out) ?_; rintro v w2 ⟨rfl, A2, B2⟩; replace H0 := Lib.hid B2; clear B2; refine any_norm (by go_simp; all_goals exact rfl) ?_)
            refine any1 7 (by kernel_rfl) ?_
            (refine op_storeAgg rfl (by rfl) 36 _ _ rfl _ rfl (thingCells (resK x k t)) rfl HSR.out (thingCells (zeroT 0)) _ H0.out.gb HZR.out (one_cells _) ?_; replace H0 := Lib.hid (H0.out.set (resK x k t)); refine any_norm (by go_simp; all_goals exact rfl) ?_)
            (refine wpAny_done (by kernel_rfl) ?_ _; go_wp2_with fail; go_meet; exact ⟨_, _, rfl, H0.out⟩)
        · (refine op_loadAgg rfl (by rfl) 36 _ rfl wr.heap.size 0 rfl (thingCells t) rfl rfl HSZ.out (by first | exact H0.out.thing | exact H0.out.bf.thing) ?_; refine any_norm (by go_simp; all_goals exact rfl) ?_)
          refine any2 3 6 (by kernel_rfl) ?_ ?_
          · (refine op_load1 rfl (by rfl) rfl ⟨sb, k, none⟩ (rptr w.heap.size (w.heap.size + 1) a3 k) rfl rfl rfl (by first | exact H0.out.slot hk4 | exact H0.out.bf.slot hk4) ?_; refine any_norm (by go_simp; all_goals exact rfl) ?_)
            refine any2 5 6 (by kernel_rfl) ?_ ?_
            · (refine op_callf rfl (by rfl) 31 _ _ rfl (by kernel_rfl) [rptr w.heap.size (w.heap.size + 1) a3 k, .agg (thingCells t).toArray] rfl (H0.out.took hk4 HOK.out) ?_; rintro v w2 ⟨rfl, A2, B2⟩; replace H0 := Lib.hid B2; clear B2; refine any_norm (by go_simp; all_goals exact rfl) ?_)
              refine any1 6 (by kernel_rfl) ?_
              (refine op_alloc' rfl (by rfl) 36 rfl (.agg zero37) (by kernel_rfl) zero37 rfl ?_; replace H0 := Lib.hid H0.out.alloc; refine any_norm (by go_simp; all_goals exact rfl) ?_)
              refine any1 7 (by kernel_rfl) ?_
              (refine op_storeAgg rfl (by rfl) 36 _ _ rfl _ rfl (thingCells (resK x k t)) rfl HSR.out (thingCells (zeroT 0)) _ H0.out.gb HZR.out (one_cells _) ?_; replace H0 := Lib.hid (H0.out.set (resK x k t)); refine any_norm (by go_simp; all_goals exact rfl) ?_)
              (refine wpAny_done (by kernel_rfl) ?_ _; go_wp2_with fail; go_meet; exact ⟨_, _, rfl, H0.out⟩)
            · (refine op_alloc' rfl (by rfl) 36 rfl (.agg zero37) (by kernel_rfl) zero37 rfl ?_; replace H0 := Lib.hid H0.out.alloc; refine any_norm (by go_simp; all_goals exact rfl) ?_)
              refine any1 5 (by kernel_rfl) ?_
              (refine op_callf rfl (by rfl) 31 _ _ rfl (by kernel_rfl) [rptr w.heap.size (w.heap.size + 1) a3 k, .agg (thingCells t).toArray] rfl (H0.out.took hk4 HOK.out) ?_; rintro v w2 ⟨rfl, A2, B2⟩; replace H0 := Lib.hid B2; clear B2; refine any_norm (by go_simp; all_goals exact rfl) ?_)
              refine any1 7 (by kernel_rfl) ?_
              (refine op_storeAgg rfl (by rfl) 36 _ _ rfl _ rfl (thingCells (resK x k t)) rfl HSR.out (thingCells (zeroT 0)) _ H0.out.gb HZR.out (one_cells _) ?_; replace H0 := Lib.hid (H0.out.set (resK x k t)); refine any_norm (by go_simp; all_goals exact rfl) ?_)
              (refine wpAny_done (by kernel_rfl) ?_ _; go_wp2_with fail; go_meet; exact ⟨_, _, rfl, H0.out⟩)
          · (refine op_alloc' rfl (by rfl) 36 rfl (.agg zero37) (by kernel_rfl) zero37 rfl ?_; replace H0 := Lib.hid H0.out.alloc; refine any_norm (by go_simp; all_goals exact rfl) ?_)
            refine any1 3 (by kernel_rfl) ?_
            (refine op_load1 rfl (by rfl) rfl ⟨sb, k, none⟩ (rptr w.heap.size (w.heap.size + 1) a3 k) rfl rfl rfl (by first | exact H0.out.slot hk4 | exact H0.out.bf.slot hk4) ?_; refine any_norm (by go_simp; all_goals exact rfl) ?_)
            refine any1 5 (by kernel_rfl) ?_
            (refine op_callf rfl (by rfl) 31 _ _ rfl (by kernel_rfl) [rptr w.heap.size (w.heap.size + 1) a3 k, .agg (thingCells t).toArray] rfl (H0.out.took hk4 HOK.out) ?_; rintro v w2 ⟨rfl, A2, B2⟩; replace H0 := Lib.hid B2; clear B2; refine any_norm (by go_simp; all_goals exact rfl) ?_)
            refine any1 7 (by kernel_rfl) ?_
            (refine op_storeAgg rfl (by rfl) 36 _ _ rfl _ rfl (thingCells (resK x k t)) rfl HSR.out (thingCells (zeroT 0)) _ H0.out.gb HZR.out (one_cells _) ?_; replace H0 := Lib.hid (H0.out.set (resK x k t)); refine any_norm (by go_simp; all_goals exact rfl) ?_)
            (refine wpAny_done (by kernel_rfl) ?_ _; go_wp2_with fail; go_meet; exact ⟨_, _, rfl, H0.out⟩)
        · (refine op_alloc' rfl (by rfl) 36 rfl (.agg zero37) (by kernel_rfl) zero37 rfl ?_; replace H0 := Lib.hid H0.out.alloc; refine any_norm (by go_simp; all_goals exact rfl) ?_)
          refine any2 3 4 (by kernel_rfl) ?_ ?_
          · (refine op_load1 rfl (by rfl) rfl ⟨sb, k, none⟩ (rptr w.heap.size (w.heap.size + 1) a3 k) rfl rfl rfl (by first | exact H0.out.slot hk4 | exact H0.out.bf.slot hk4) ?_; refine any_norm (by go_simp; all_goals exact rfl) ?_)
            refine any1 4 (by kernel_rfl) ?_
            (refine op_loadAgg rfl (by rfl) 36 _ rfl wr.heap.size 0 rfl (thingCells t) rfl rfl HSZ.out (by first | exact H0.out.thing | exact H0.out.bf.thing) ?_; refine any_norm (by go_simp; all_goals exact rfl) ?_)
            refine any1 5 (by kernel_rfl) ?_
            (refine op_callf rfl (by rfl) 31 _ _ rfl (by kernel_rfl) [rptr w.heap.size (w.heap.size + 1) a3 k, .agg (thingCells t).toArray] rfl (H0.out.took hk4 HOK.out) ?_; rintro v w2 ⟨rfl, A2, B2⟩; replace H0 := Lib.hid B2; clear B2; refine any_norm (by go_simp; all_goals exact rfl) ?_)
            refine any1 7 (by kernel_rfl) ?_
            (refine op_storeAgg rfl (by rfl) 36 _ _ rfl _ rfl (thingCells (resK x k t)) rfl HSR.out (thingCells (zeroT 0)) _ H0.out.gb HZR.out (one_cells _) ?_; replace H0 := Lib.hid (H0.out.set (resK x k t)); refine any_norm (by go_simp; all_goals exact rfl) ?_)
            (refine wpAny_done (by kernel_rfl) ?_ _; go_wp2_with fail; go_meet; exact ⟨_, _, rfl, H0.out⟩)
          · (refine op_loadAgg rfl (by rfl) 36 _ rfl wr.heap.size 0 rfl (thingCells t) rfl rfl HSZ.out (by first | exact H0.out.thing | exact H0.out.bf.thing) ?_; refine any_norm (by go_simp; all_goals exact rfl) ?_)
            refine any1 3 (by kernel_rfl) ?_
            (refine op_load1 rfl (by rfl) rfl ⟨sb, k, none⟩ (rptr w.heap.size (w.heap.size + 1) a3 k) rfl rfl rfl (by first | exact H0.out.slot hk4 | exact H0.out.bf.slot hk4) ?_; refine any_norm (by go_simp; all_goals exact rfl) ?_)
            refine any1 5 (by kernel_rfl) ?_
            (refine op_callf rfl (by rfl) 31 _ _ rfl (by kernel_rfl) [rptr w.heap.size (w.heap.size + 1) a3 k, .agg (thingCells t).toArray] rfl (H0.out.took hk4 HOK.out) ?_; rintro v w2 ⟨rfl, A2, B2⟩; replace H0 := Lib.hid B2; clear B2; refine any_norm (by go_simp; all_goals exact rfl) ?_)
            refine any1 7 (by kernel_rfl) ?_
            (refine op_storeAgg rfl (by rfl) 36 _ _ rfl _ rfl (thingCells (resK x k t)) rfl HSR.out (thingCells (zeroT 0)) _ H0.out.gb HZR.out (one_cells _) ?_; replace H0 := Lib.hid (H0.out.set (resK x k t)); refine any_norm (by go_simp; all_goals exact rfl) ?_)
            (refine wpAny_done (by kernel_rfl) ?_ _; go_wp2_with fail; go_meet; exact ⟨_, _, rfl, H0.out⟩)
      case rest =>
        obtain ⟨g, A2, rfl, M⟩ := hcut
        have d1 := (thing_cells M.gb).2.1
        have d3 := (thing_cells M.gb).2.2.2.1
        have HM := Lib.hid M
        have HSV := Lib.hid (thing_size' (bare (resK x k t).kind (resK x k t).wd) rfl)
        have HZV := Lib.hid (rfl : zero37.size = (thingCells (bare (resK x k t).kind (resK x k t).wd)).length)
        have HZ3 := Lib.hid (rfl : (#[.int .i64 0, .int .i64 0] : Array Value).size = (fcells (some (1, none))).length)
        clear M c0 HB HWX HF7 HR HCS H1 HZ
        go_wp2_with (refine wpList_storeNew rfl 36 _ _ rfl _ _ rfl (thingCells (bare (resK x k t).kind (resK x k t).wd)) rfl HSV.out HZV.out (one_cells _) ?_)
        refine (plain_any 1 _).mono ?_
        rintro e w3 ⟨rfl, u3⟩
        have HF := Lib.hid (HM.out.fin _ u3 (some (1, none)))
        clear u3 d1 d3
        go_upto_if 67 with (refine wpList_storeNew rfl 39 _ _ rfl _ _ rfl (fcells (some (1, none))) rfl fault_size HZ3.out (one_fault _) ?_)
        generalize wc.heap.size = h4 at HF ⊢
        go_cut [15] from 41 to 124 (fun lv wx => lv = .int .i64 (leftK (stepK x k t) k) ∧ RFin w.heap.size A2 se w wx w.heap.size (w.heap.size + 1) a3 m0 m1 sb mb (stepK x k t) (stepK x k t) wr.heap.size g h4 w3.heap.size t (resK x k t) (resK x k t) (finK (stepK x k t) k))
        case first =>
          by_cases hk2 : k < 2
          · have E1 : resK x k t = (tookD (x k) t).1 := if_pos hk2
            have E2 : stepK x k t = nextK x k t := if_pos hk2
            have E3 : leftK (stepK x k t) k = (nextK x k t k).left := by rw [E2]; exact if_pos hk2
            have E4 : finK (stepK x k t) k = (nextK x k t k).fin := by rw [E2]; exact if_pos hk2
            have hk2i : (k : Int) < 2 := by omega
            have F0 := HF.out
            change RFin _ _ _ _ (w3.alloc (.cells #[.int .i64 1, .int .i64 (-1)] 39)) _ _ _ _ _ _ _ _ _ _ _ _ _ _ _ _ _ at F0
            have HFD := Lib.hid (F0.ext (ext_drew _))
            clear F0
            have HL := Lib.hid HFD.out.mid.bf.thing
            have cM := HFD.out.mid.bf.mslot hk2
            have HC := Lib.hid (HFD.out.meant hk2 HOK.out)
            have HRL := Lib.hid (show (thingCells (bare (resK x k t).kind (resK x k t).wd)).length = (thingCells (tookD (x k) t).1).length by rw [← E1, thingCells_len _ HRO.out.h]; rfl)
            have HST := Lib.hid (show (Tryd.prog.info? 36).map (·.size) = some (thingCells (tookD (x k) t).1).length by rw [← E1]; exact HSR.out)
            have HE := Lib.hid (And.intro E1 (And.intro E2 (And.intro E3 E4)))
            clear E1 E2 E3 E4
            go_wp2_with fail
            refine wp_region_still_tail 5 (by kernel_rfl) (by kernel_rfl) ?_
            simp only [List.take_succ_cons, List.take_zero, List.drop_succ_cons, List.drop_zero]
            change wpStill _ _ (World.drew _) _ _ _
            still_step
            still_step
            still_step
            still_step
            refine st_loadAgg rfl 36 _ rfl wr.heap.size 0 rfl (thingCells t) Tryd.underlying36 rfl HSZ.out HL.out ?_
            refine wpStill_nil ?_
            go_wp2_with fail
            refine HC.out.mono ?_
            rintro e w5 ⟨rfl, F5⟩
            have HF5 := Lib.hid F5
            have F6 := F5.setH' _ HRL.out
            have cM6 := F6.mid.bf.mslot hk2
            have HF6 := Lib.hid F6
            clear F5 F6 HC HL cM
            go_wp2_with (refine wpList_storeAgg rfl 36 _ _ rfl h4 0 rfl (thingCells (tookD (x k) t).1) rfl HST.out (thingCells (bare (resK x k t).kind (resK x k t).wd)) 36 HF5.out.hb (by have := HRL.out; omega) (one_cells _) ?_)
            refine (HF6.out.mleft hk2).mono ?_
            rintro e w7 ⟨rfl, F7⟩
            have cM7 := F7.mid.bf.mslot hk2
            have HF7 := Lib.hid F7
            clear F7 cM6
            go_wp2_with fail
            refine (HF7.out.mend hk2).mono ?_
            rintro e w8 ⟨rfl, F8⟩
            have HF8 := Lib.hid F8
            clear F8 cM7
            go_wp2_with (refine wpList_storeAgg rfl 39 _ _ rfl w3.heap.size 0 rfl (fcells (nextK x k t k).fin) rfl fault_size (fcells (some (1, none))) 39 HF8.out.qb (Nat.le_refl 2) (one_fault _) ?_)
            go_meet
            case rel =>
              obtain ⟨E1, E2, E3, E4⟩ := HE.out
              rw [E3, E4]
              refine ⟨rfl, ?_⟩
              have F9 := HF8.out.setQ' (nextK x k t k).fin
              rw [← E1, ← E2] at F9
              rw [← E2]
              exact F9
          · have E1 : resK x k t = bare (resK x k t).kind (resK x k t).wd := by unfold resK; rw [if_neg hk2]; rfl
            have E2 : leftK (stepK x k t) k = 0 := if_neg hk2
            have E3 : finK (stepK x k t) k = some (1, none) := if_neg hk2
            have E4 : stepK x k t = x := if_neg hk2
            have HE := Lib.hid (And.intro E1 (And.intro E2 (And.intro E3 E4)))
            clear E1 E2 E3 E4
            have hk2i : ¬ (k : Int) < 2 := by omega
            go_wp2_with fail
            go_meet
            case rel =>
              obtain ⟨E1, E2, E3, E4⟩ := HE.out
              have F := HF.out
              rw [← E1, E4] at F
              refine ⟨by rw [E2], ?_⟩
              rw [E3, E4]
              exact F
        case rest =>
          obtain ⟨rfl, M2⟩ := hcut
          have M3 := M2
          clear M2 HF
          generalize hu : resK x k t = u at *
          generalize hlk : leftK (stepK x k t) k = lk at *
          generalize hfk : finK (stepK x k t) k = fk at *
          go_wp2_with fail
          have HN := Lib.hid M3
          clear M3
          have HLP := Lib.hid (fun (w7 : World) (h7 : Ext _ w7) => show w7.cell? ⟨sb, 0 + k * 1, none⟩ = some (rptr w.heap.size (w.heap.size + 1) a3 k) by rw [show 0 + k * 1 = k by omega]; exact (HN.out.ext h7).mid.bf.slot hk4)
          have HLG := Lib.hid (fun (w7 : World) (h7 : Ext _ w7) (j : Nat) (v : Value) (hj : (thingCells u)[j]? = some v) => show w7.cell? ⟨g, 0 + j, none⟩ = some v by rw [Nat.zero_add]; exact (cell_of_blk (HN.out.ext h7).mid.gb j).trans (by simpa using hj))
          have HLH := Lib.hid (fun (w7 : World) (h7 : Ext _ w7) (j : Nat) (v : Value) (hj : (thingCells u)[j]? = some v) => show w7.cell? ⟨h4, 0 + j, none⟩ = some v by rw [Nat.zero_add]; exact (cell_of_blk (HN.out.ext h7).hb j).trans (by simpa using hj))
          have HLQ := Lib.hid (fun (w7 : World) (h7 : Ext _ w7) (j : Nat) (v : Value) (hj : (fcells fk)[j]? = some v) => show w7.cell? ⟨w3.heap.size, 0 + j, none⟩ = some v by rw [Nat.zero_add]; exact (cell_of_blk (HN.out.ext h7).qb j).trans (by simpa using hj))
          have HSM := Lib.hid (fun w => thing_same u HRO.out w)
          have HSU := Lib.hid (thing_size' u HRO.out.h)
          have HLF := Lib.hid (fun (w7 : World) (h7 : Ext _ w7) => ((HN.out.ext h7).mid.bf.W.rd.left k hk4).mono (R' := fun e w8 => ∃ v, e = .returned v ∧ Ext w7 w8 ∧ v = .int .i64 lk) (by rintro e w8 ⟨rfl, X⟩; exact ⟨_, rfl, X, by rw [hlk]⟩))
          have HEN := Lib.hid (fun (w7 : World) (h7 : Ext _ w7) => ((HN.out.ext h7).mid.bf.W.rd.end k hk4).mono (R' := fun e w8 => ∃ v, e = .returned v ∧ Ext w7 w8 ∧ ErrIs se w8 v fk) (by rintro e w8 ⟨v, rfl, X, Y⟩; exact ⟨_, rfl, Y, by rw [← hfk]; exact X⟩))
          have HFO := Lib.hid (show FOk fk by rw [← hfk]; exact finK_ok HN.out.mid.bf.W.rd.okx k)
          have HSA := Lib.hid (fun (w7 : World) (z : Value) (h7 : Ext _ w7) (hz : ErrIs se w7 z fk) => (same_any (HN.out.ext h7).mid.bf.W.rd.g hz (faultC fk) (faultA fk)).mono (R' := fun e w8 => ∃ v, e = .returned v ∧ Ext w7 w8 ∧ v = .bool true) (by rintro e w8 ⟨rfl, X⟩; exact ⟨_, rfl, X, by rw [HFO.out.same]⟩))
          refine region_slots se [.inl (.agg (thingCells u).toArray), .inl (.agg (thingCells u).toArray), .inl (.bool false), .inl (.bool false), .inl (.slice (some ⟨sb, 0, none⟩) 4 4), .inl (.int .i64 k), .inl (.pointer (some ⟨sb, 0 + k * 1, none⟩)), .inl (rptr w.heap.size (w.heap.size + 1) a3 k), .inl (.int .i64 lk), .inl (.int .i64 lk), .inl (.bool false), .inl (.bool false), .inl (.bool false), .inl (.slice (some ⟨sb, 0, none⟩) 4 4), .inl (.int .i64 k), .inl (.pointer (some ⟨sb, 0 + k * 1, none⟩)), .inl (rptr w.heap.size (w.heap.size + 1) a3 k), .inr fk, .inl (.agg (fcells fk).toArray), .inl (.bool true), .inl (.bool false), .inl (.bool false), .inl (.bool false), .inl (.slice (some ⟨sb, 0, none⟩) 4 4), .inl (.int .i64 k), .inl (.pointer (some ⟨sb, 0 + k * 1, none⟩)), .inl (rptr w.heap.size (w.heap.size + 1) a3 k), .inl (.int .i64 lk), .inl (.int .i64 lk), .inl (.bool false), .inl (.bool false), .inl (.bool false), .inl (.slice (some ⟨sb, 0, none⟩) 4 4), .inl (.int .i64 k), .inl (.pointer (some ⟨sb, 0 + k * 1, none⟩)), .inl (rptr w.heap.size (w.heap.size + 1) a3 k), .inr fk, .inl (.agg (fcells fk).toArray), .inl (.bool true), .inl (.bool false), .inl (.bool false)] (by kernel_rfl) (by rfl) (by rfl) ?_ ?_
          rotate_left
          · intro v w' X hv
            have h40 := slot_val (hv 40 _ 124 rfl rfl) rfl
            have HE := Lib.hid (HN.out.ext X).mid.bf.W
            clear X hv HN HLP HLG HLH HLQ HSM HSU HLF HEN HFO HSA HM
            refine q_norm (by simp only [putAll]; rewrite [h40]; go_simp; all_goals exact rfl) ?_
            go_wp2_with fail
            exact ⟨⟨i + 1, _, _, by simp, hlt, HE.out⟩, by simp [intOf]; omega⟩
          refine ⟨ty_loadAgg 36 g 0 (thingCells u) (gd_none rfl) rfl rfl (kn_old 13 rfl rfl) Tryd.underlying36 rfl HSU.out HLG.out, ?_⟩
          refine ⟨ty_loadAgg 36 _ 0 (thingCells u) (gd_none rfl) rfl rfl (kn_old 14 rfl rfl) Tryd.underlying36 rfl HSU.out HLH.out, ?_⟩
          refine ⟨ty_neqAgg _ _ _ _ (gd_none rfl) rfl rfl (kn_new 0 rfl rfl rfl rfl) (kn_new 1 rfl rfl rfl rfl) guard_thing HSM.out, ?_⟩
          refine ⟨ty_move (gd_none rfl) rfl rfl (kn_new 2 rfl rfl rfl rfl), ?_⟩
          refine ⟨ty_move (gd_some 3 rfl rfl rfl rfl rfl) rfl rfl (kn_old 8 rfl rfl), ?_⟩
          refine ⟨ty_move (gd_some 3 rfl rfl rfl rfl rfl) rfl rfl (kn_old 12 rfl rfl), ?_⟩
          refine ⟨ty_indexSlice sb 0 4 4 k 1 52 (gd_some 3 rfl rfl rfl rfl rfl) rfl rfl (kn_new 4 rfl rfl rfl rfl) (kn_new 5 rfl rfl rfl rfl) hk4 Tryd.underlying63 rptr_size, ?_⟩
          refine ⟨ty_load1 ⟨sb, 0 + k * 1, none⟩ _ (gd_some 3 rfl rfl rfl rfl rfl) rfl rfl (kn_new 6 rfl rfl rfl rfl) Tryd.underlying52 rfl HLP.out, ?_⟩
          refine ⟨ty_call1 29 (.tmp 91) _ _ (gd_some 3 rfl rfl rfl rfl rfl) rfl body_left (kn_new 7 rfl rfl rfl rfl) HLF.out, ?_⟩
          refine ⟨ty_move (gd_some 3 rfl rfl rfl rfl rfl) rfl rfl (kn_old 15 rfl rfl), ?_⟩
          refine ⟨ty_neqInt lk (gd_some 3 rfl rfl rfl rfl rfl) rfl rfl (kn_new 8 rfl rfl rfl rfl) (kn_new 9 rfl rfl rfl rfl), ?_⟩
          refine ⟨ty_pickF (gd_none rfl) rfl rfl (kn_new 3 rfl rfl rfl rfl) (kn_new 10 rfl rfl rfl rfl), ?_⟩
          refine ⟨ty_move (gd_none rfl) rfl rfl (kn_new 11 rfl rfl rfl rfl), ?_⟩
          refine ⟨ty_move (gd_some 12 rfl rfl rfl rfl rfl) rfl rfl (kn_old 8 rfl rfl), ?_⟩
          refine ⟨ty_move (gd_some 12 rfl rfl rfl rfl rfl) rfl rfl (kn_old 12 rfl rfl), ?_⟩
          refine ⟨ty_indexSlice sb 0 4 4 k 1 52 (gd_some 12 rfl rfl rfl rfl rfl) rfl rfl (kn_new 13 rfl rfl rfl rfl) (kn_new 14 rfl rfl rfl rfl) hk4 Tryd.underlying63 rptr_size, ?_⟩
          refine ⟨ty_load1 ⟨sb, 0 + k * 1, none⟩ _ (gd_some 12 rfl rfl rfl rfl rfl) rfl rfl (kn_new 15 rfl rfl rfl rfl) Tryd.underlying52 rfl HLP.out, ?_⟩
          refine ⟨ty_call1 27 (.tmp 100) _ _ (gd_some 12 rfl rfl rfl rfl rfl) rfl body_end (kn_new 16 rfl rfl rfl rfl) HEN.out, ?_⟩
          refine ⟨ty_loadAgg 39 _ 0 (fcells fk) (gd_some 12 rfl rfl rfl rfl rfl) rfl rfl (kn_old 16 rfl rfl) Tryd.underlying39 rfl fault_size HLQ.out, ?_⟩
          refine ⟨ty_callE 18 17 101 (.tmp 102) _ fk _ (gd_some 12 rfl rfl rfl rfl rfl) rfl body_same rfl rfl rfl rfl (kn_new 18 rfl rfl rfl rfl) HSA.out, ?_⟩
          refine ⟨ty_not true (gd_some 12 rfl rfl rfl rfl rfl) rfl rfl (kn_new 19 rfl rfl rfl rfl), ?_⟩
          refine ⟨ty_pickF (gd_none rfl) rfl rfl (kn_new 12 rfl rfl rfl rfl) (kn_new 20 rfl rfl rfl rfl), ?_⟩
          refine ⟨ty_move (gd_none rfl) rfl rfl (kn_new 21 rfl rfl rfl rfl), ?_⟩
          refine ⟨ty_move (gd_some 22 rfl rfl rfl rfl rfl) rfl rfl (kn_old 8 rfl rfl), ?_⟩
          refine ⟨ty_move (gd_some 22 rfl rfl rfl rfl rfl) rfl rfl (kn_old 12 rfl rfl), ?_⟩
          refine ⟨ty_indexSlice sb 0 4 4 k 1 52 (gd_some 22 rfl rfl rfl rfl rfl) rfl rfl (kn_new 23 rfl rfl rfl rfl) (kn_new 24 rfl rfl rfl rfl) hk4 Tryd.underlying63 rptr_size, ?_⟩
          refine ⟨ty_load1 ⟨sb, 0 + k * 1, none⟩ _ (gd_some 22 rfl rfl rfl rfl rfl) rfl rfl (kn_new 25 rfl rfl rfl rfl) Tryd.underlying52 rfl HLP.out, ?_⟩
          refine ⟨ty_call1 29 (.tmp 110) _ _ (gd_some 22 rfl rfl rfl rfl rfl) rfl body_left (kn_new 26 rfl rfl rfl rfl) HLF.out, ?_⟩
          refine ⟨ty_move (gd_some 22 rfl rfl rfl rfl rfl) rfl rfl (kn_old 15 rfl rfl), ?_⟩
          refine ⟨ty_neqInt lk (gd_some 22 rfl rfl rfl rfl rfl) rfl rfl (kn_new 27 rfl rfl rfl rfl) (kn_new 28 rfl rfl rfl rfl), ?_⟩
          refine ⟨ty_pickF (gd_none rfl) rfl rfl (kn_new 22 rfl rfl rfl rfl) (kn_new 29 rfl rfl rfl rfl), ?_⟩
          refine ⟨ty_move (gd_none rfl) rfl rfl (kn_new 30 rfl rfl rfl rfl), ?_⟩
          refine ⟨ty_move (gd_some 31 rfl rfl rfl rfl rfl) rfl rfl (kn_old 8 rfl rfl), ?_⟩
          refine ⟨ty_move (gd_some 31 rfl rfl rfl rfl rfl) rfl rfl (kn_old 12 rfl rfl), ?_⟩
          refine ⟨ty_indexSlice sb 0 4 4 k 1 52 (gd_some 31 rfl rfl rfl rfl rfl) rfl rfl (kn_new 32 rfl rfl rfl rfl) (kn_new 33 rfl rfl rfl rfl) hk4 Tryd.underlying63 rptr_size, ?_⟩
          refine ⟨ty_load1 ⟨sb, 0 + k * 1, none⟩ _ (gd_some 31 rfl rfl rfl rfl rfl) rfl rfl (kn_new 34 rfl rfl rfl rfl) Tryd.underlying52 rfl HLP.out, ?_⟩
          refine ⟨ty_call1 27 (.tmp 119) _ _ (gd_some 31 rfl rfl rfl rfl rfl) rfl body_end (kn_new 35 rfl rfl rfl rfl) HEN.out, ?_⟩
          refine ⟨ty_loadAgg 39 _ 0 (fcells fk) (gd_some 31 rfl rfl rfl rfl rfl) rfl rfl (kn_old 16 rfl rfl) Tryd.underlying39 rfl fault_size HLQ.out, ?_⟩
          refine ⟨ty_callE 18 36 120 (.tmp 121) _ fk _ (gd_some 31 rfl rfl rfl rfl rfl) rfl body_same rfl rfl rfl rfl (kn_new 37 rfl rfl rfl rfl) HSA.out, ?_⟩
          refine ⟨ty_not true (gd_some 31 rfl rfl rfl rfl rfl) rfl rfl (kn_new 38 rfl rfl rfl rfl), ?_⟩
          refine ⟨ty_pickF (gd_none rfl) rfl rfl (kn_new 31 rfl rfl rfl rfl) (kn_new 39 rfl rfl rfl rfl), ?_⟩
          exact True.intro
    · go_wp2_with fail
      have HLS := Lib.hid (fun (j : Nat) (hj : j < 4) (w7 : World) (h7 : Ext wr w7) => show w7.cell? ⟨sb, 0 + j * 1, none⟩ = some (rptr w.heap.size (w.heap.size + 1) a3 j) by rw [show 0 + j * 1 = j by omega]; exact (cell_of_blk (HW.out.ext h7).sbk j).trans (rptrRow_at _ _ _ j hj))
      have HLM := Lib.hid (fun (j : Nat) (hj : j < 2) (w7 : World) (h7 : Ext wr w7) => show w7.cell? ⟨mb, 0 + j * 1, none⟩ = some (mptr m0 m1 j) by rw [show 0 + j * 1 = j by omega]; exact (cell_of_blk (HW.out.ext h7).mbk j).trans (mptrRow_at _ _ j hj))
      have HEN := Lib.hid (fun (j : Nat) (hj : j < 2) (w7 : World) (h7 : Ext wr w7) => ((HW.out.ext h7).rd.end j (by omega)).mono (R' := fun e w8 => ∃ v, e = .returned v ∧ Ext w7 w8 ∧ ErrIs se w8 v (x j).fin) (by rintro e w8 ⟨v, rfl, X, Y⟩; exact ⟨_, rfl, Y, by rw [show (x j).fin = finK x j from (if_pos hj).symm]; exact X⟩))
      have HMN := Lib.hid (fun (j : Nat) (hj : j < 2) (w7 : World) (h7 : Ext wr w7) => ((HW.out.ext h7).rd.mend j hj).mono (R' := fun e w8 => ∃ v, e = .returned v ∧ Ext w7 w8 ∧ v = .agg (fcells (x j).fin).toArray) (by rintro e w8 ⟨rfl, X⟩; exact ⟨_, rfl, X, rfl⟩))
      have HSA := Lib.hid (fun (j : Nat) (w7 : World) (z : Value) (h7 : Ext wr w7) (hz : ErrIs se w7 z (x j).fin) => (same_any (HW.out.ext h7).rd.g hz (faultC (x j).fin) (faultA (x j).fin)).mono (R' := fun e w8 => ∃ v, e = .returned v ∧ Ext w7 w8 ∧ v = .bool true) (by rintro e w8 ⟨rfl, X⟩; exact ⟨_, rfl, X, by rw [(fok_fin (HW.out.rd.okx j)).same]⟩))
      have HLF := Lib.hid (fun (w7 : World) (h7 : Ext wr w7) => ((HW.out.ext h7).rd.left 1 (by decide)).mono (R' := fun e w8 => ∃ v, e = .returned v ∧ Ext w7 w8 ∧ v = .int .i64 (x 1).left) (by rintro e w8 ⟨rfl, X⟩; exact ⟨_, rfl, X, rfl⟩))
      have HML := Lib.hid (fun (w7 : World) (h7 : Ext wr w7) => ((HW.out.ext h7).rd.mleft 1 (by decide)).mono (R' := fun e w8 => ∃ v, e = .returned v ∧ Ext w7 w8 ∧ v = .int .i64 (x 1).left) (by rintro e w8 ⟨rfl, X⟩; exact ⟨_, rfl, X, rfl⟩))
      have HLV := Lib.hid (fun (w7 : World) (h7 : Ext wr w7) => (lives_any (HW.out.ext h7).rd.g).mono (R' := fun e w8 => ∃ v, e = .returned v ∧ Ext w7 w8 ∧ v = .bool true) (by rintro e w8 ⟨rfl, X⟩; exact ⟨_, rfl, X, rfl⟩))
      refine region_slots se [.inl (.slice (some ⟨sb, 0, none⟩) 4 4), .inl (.pointer (some ⟨sb, 0 + 0 * 1, none⟩)), .inl (rptr w.heap.size (w.heap.size + 1) a3 0), .inr (x 0).fin, .inl (.slice (some ⟨mb, 0, none⟩) 2 2), .inl (.pointer (some ⟨mb, 0 + 0 * 1, none⟩)), .inl (mptr m0 m1 0), .inl (.agg (fcells (x 0).fin).toArray), .inl (.bool true), .inl (.bool true), .inl (.slice (some ⟨sb, 0, none⟩) 4 4), .inl (.pointer (some ⟨sb, 0 + 1 * 1, none⟩)), .inl (rptr w.heap.size (w.heap.size + 1) a3 1), .inr (x 1).fin, .inl (.slice (some ⟨mb, 0, none⟩) 2 2), .inl (.pointer (some ⟨mb, 0 + 1 * 1, none⟩)), .inl (mptr m0 m1 1), .inl (.agg (fcells (x 1).fin).toArray), .inl (.bool true), .inl (.bool true), .inl (.bool true), .inl (.slice (some ⟨sb, 0, none⟩) 4 4), .inl (.pointer (some ⟨sb, 0 + 1 * 1, none⟩)), .inl (rptr w.heap.size (w.heap.size + 1) a3 1), .inl (.int .i64 (x 1).left), .inl (.slice (some ⟨mb, 0, none⟩) 2 2), .inl (.pointer (some ⟨mb, 0 + 1 * 1, none⟩)), .inl (mptr m0 m1 1), .inl (.int .i64 (x 1).left), .inl (.bool true), .inl (.bool true), .inl (.bool true), .inl (.bool true), .inl (.bool true), .inl (.bool true)] (by kernel_rfl) (by rfl) (by rfl) ?_ ?_
      rotate_left
      · intro v w' X hv
        have h34 := slot_val (hv 34 _ 6 rfl rfl) rfl
        have HE := Lib.hid (HW.out.rd.e.thenExt X)
        clear X hv HW
        refine q_norm (by simp only [putAll]; rewrite [h34]; go_simp; all_goals exact rfl) ?_
        go_wp2_with fail
        go_ret
        exact ⟨rfl, HE.out⟩
      refine ⟨ty_move (gd_none rfl) rfl rfl (kn_old 8 rfl rfl), ?_⟩
      refine ⟨ty_indexSlice sb 0 4 4 0 1 52 (gd_none rfl) rfl rfl (kn_new 0 rfl rfl rfl rfl) kn_const (by decide) Tryd.underlying63 rptr_size, ?_⟩
      refine ⟨ty_load1 ⟨sb, 0 + 0 * 1, none⟩ _ (gd_none rfl) rfl rfl (kn_new 1 rfl rfl rfl rfl) Tryd.underlying52 rfl (HLS.out 0 (by decide)), ?_⟩
      refine ⟨ty_call1 27 (.tmp 127) _ _ (gd_none rfl) rfl body_end (kn_new 2 rfl rfl rfl rfl) (HEN.out 0 (by decide)), ?_⟩
      refine ⟨ty_move (gd_none rfl) rfl rfl (kn_old 9 rfl rfl), ?_⟩
      refine ⟨ty_indexSlice mb 0 2 2 0 1 64 (gd_none rfl) rfl rfl (kn_new 4 rfl rfl rfl rfl) kn_const (by decide) Tryd.underlying67 mptr_size, ?_⟩
      refine ⟨ty_load1 ⟨mb, 0 + 0 * 1, none⟩ _ (gd_none rfl) rfl rfl (kn_new 5 rfl rfl rfl rfl) Tryd.underlying64 rfl (HLM.out 0 (by decide)), ?_⟩
      refine ⟨ty_call1 34 (.tmp 131) _ _ (gd_none rfl) rfl body_mend (kn_new 6 rfl rfl rfl rfl) (HMN.out 0 (by decide)), ?_⟩
      refine ⟨ty_callE 18 3 128 (.tmp 132) _ (x 0).fin _ (gd_none rfl) rfl body_same rfl rfl rfl rfl (kn_new 7 rfl rfl rfl rfl) (HSA.out 0), ?_⟩
      refine ⟨ty_move (gd_none rfl) rfl rfl (kn_new 8 rfl rfl rfl rfl), ?_⟩
      refine ⟨ty_move (gd_some 9 rfl rfl rfl rfl rfl) rfl rfl (kn_old 8 rfl rfl), ?_⟩
      refine ⟨ty_indexSlice sb 0 4 4 1 1 52 (gd_some 9 rfl rfl rfl rfl rfl) rfl rfl (kn_new 10 rfl rfl rfl rfl) kn_const (by decide) Tryd.underlying63 rptr_size, ?_⟩
      refine ⟨ty_load1 ⟨sb, 0 + 1 * 1, none⟩ _ (gd_some 9 rfl rfl rfl rfl rfl) rfl rfl (kn_new 11 rfl rfl rfl rfl) Tryd.underlying52 rfl (HLS.out 1 (by decide)), ?_⟩
      refine ⟨ty_call1 27 (.tmp 137) _ _ (gd_some 9 rfl rfl rfl rfl rfl) rfl body_end (kn_new 12 rfl rfl rfl rfl) (HEN.out 1 (by decide)), ?_⟩
      refine ⟨ty_move (gd_some 9 rfl rfl rfl rfl rfl) rfl rfl (kn_old 9 rfl rfl), ?_⟩
      refine ⟨ty_indexSlice mb 0 2 2 1 1 64 (gd_some 9 rfl rfl rfl rfl rfl) rfl rfl (kn_new 14 rfl rfl rfl rfl) kn_const (by decide) Tryd.underlying67 mptr_size, ?_⟩
      refine ⟨ty_load1 ⟨mb, 0 + 1 * 1, none⟩ _ (gd_some 9 rfl rfl rfl rfl rfl) rfl rfl (kn_new 15 rfl rfl rfl rfl) Tryd.underlying64 rfl (HLM.out 1 (by decide)), ?_⟩
      refine ⟨ty_call1 34 (.tmp 141) _ _ (gd_some 9 rfl rfl rfl rfl rfl) rfl body_mend (kn_new 16 rfl rfl rfl rfl) (HMN.out 1 (by decide)), ?_⟩
      refine ⟨ty_callE 18 13 138 (.tmp 142) _ (x 1).fin _ (gd_some 9 rfl rfl rfl rfl rfl) rfl body_same rfl rfl rfl rfl (kn_new 17 rfl rfl rfl rfl) (HSA.out 1), ?_⟩
      refine ⟨ty_pickT (gd_none rfl) rfl rfl (kn_new 9 rfl rfl rfl rfl) (kn_new 18 rfl rfl rfl rfl), ?_⟩
      refine ⟨ty_move (gd_none rfl) rfl rfl (kn_new 19 rfl rfl rfl rfl), ?_⟩
      refine ⟨ty_move (gd_some 20 rfl rfl rfl rfl rfl) rfl rfl (kn_old 8 rfl rfl), ?_⟩
      refine ⟨ty_indexSlice sb 0 4 4 1 1 52 (gd_some 20 rfl rfl rfl rfl rfl) rfl rfl (kn_new 21 rfl rfl rfl rfl) kn_const (by decide) Tryd.underlying63 rptr_size, ?_⟩
      refine ⟨ty_load1 ⟨sb, 0 + 1 * 1, none⟩ _ (gd_some 20 rfl rfl rfl rfl rfl) rfl rfl (kn_new 22 rfl rfl rfl rfl) Tryd.underlying52 rfl (HLS.out 1 (by decide)), ?_⟩
      refine ⟨ty_call1 29 (.tmp 148) _ _ (gd_some 20 rfl rfl rfl rfl rfl) rfl body_left (kn_new 23 rfl rfl rfl rfl) HLF.out, ?_⟩
      refine ⟨ty_move (gd_some 20 rfl rfl rfl rfl rfl) rfl rfl (kn_old 9 rfl rfl), ?_⟩
      refine ⟨ty_indexSlice mb 0 2 2 1 1 64 (gd_some 20 rfl rfl rfl rfl rfl) rfl rfl (kn_new 25 rfl rfl rfl rfl) kn_const (by decide) Tryd.underlying67 mptr_size, ?_⟩
      refine ⟨ty_load1 ⟨mb, 0 + 1 * 1, none⟩ _ (gd_some 20 rfl rfl rfl rfl rfl) rfl rfl (kn_new 26 rfl rfl rfl rfl) Tryd.underlying64 rfl (HLM.out 1 (by decide)), ?_⟩
      refine ⟨ty_call1 33 (.tmp 152) _ _ (gd_some 20 rfl rfl rfl rfl rfl) rfl body_mleft (kn_new 27 rfl rfl rfl rfl) HML.out, ?_⟩
      refine ⟨ty_eqlInt (x 1).left (gd_some 20 rfl rfl rfl rfl rfl) rfl rfl (kn_new 24 rfl rfl rfl rfl) (kn_new 28 rfl rfl rfl rfl), ?_⟩
      refine ⟨ty_pickT (gd_none rfl) rfl rfl (kn_new 20 rfl rfl rfl rfl) (kn_new 29 rfl rfl rfl rfl), ?_⟩
      refine ⟨ty_move (gd_none rfl) rfl rfl (kn_new 30 rfl rfl rfl rfl), ?_⟩
      refine ⟨ty_call 20 [] _ (gd_some 31 rfl rfl rfl rfl rfl) rfl body_lives (fun _ w7 h7 _ _ => HLV.out w7 h7), ?_⟩
      refine ⟨ty_pickT (gd_none rfl) rfl rfl (kn_new 31 rfl rfl rfl rfl) (kn_new 32 rfl rfl rfl rfl), ?_⟩
      refine ⟨ty_assign (gd_none rfl) rfl rfl (kn_new 33 rfl rfl rfl rfl), ?_⟩
      exact True.intro
end Go.Proofs.YtkabomkikbdigaaDoor
