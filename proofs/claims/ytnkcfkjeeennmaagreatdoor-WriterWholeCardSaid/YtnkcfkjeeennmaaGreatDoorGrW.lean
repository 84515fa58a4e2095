/- What a growth holds in memory: a builder, edges, tiles that are whole, what was touched. Plain lemmas on memory. A region that draws its order: operations that read may be taken first, under a law on worlds that is to hold until one of some last operations (the bar) has come up; each of those waits for the reading ones. (The library's wpAnyH with an end.) Nothing of the program. strings.Builder: copyCheck, WriteByte, WriteString, Write by contracts (the library's contracts, turned to this program's bodies). -/
import Derived.Test.YtnkcfkjeeennmaaGreatDoorCtz
import Derived.OrdersHeld
import Derived.Test.YtnkcfkjeeennmaaGreatDoorAgg
import Derived.Test.YtnkcfkjeeennmaaGreatDoorApp
import Derived.Shelf.Strings.Builder1
namespace Go.Proofs.YtnkcfkjeeennmaaGreatDoor
open Go.RowKit Go.Lib


abbrev nilS : Value := .slice none 0 0
/-- A tile with its hashes, whose slice is v. -/
structure LaidD where
  k : Nat
  i : Nat
  wd : Nat
  hs : List HB
  v : Value
def laidC (x : LaidD) : List Value := [.int .u8 x.k, .int .u64 x.i, .int .i64 x.wd, x.v]
def laidCs (l : List LaidD) : List Value := (l.map laidC).flatten
structure GrV where
  bb : Nat
  lv : Value
  ev : Value
  dv : Value
  tv : Value
  vs : List Value
  dvs : List Value
structure GrD where
  n : Nat
  l : List HB
  es : List (List HB)
  ls : List (List LaidD)
  ts : List Bool
structure GrAt (B : Nat) (w : World) (gb : Nat) (V : GrV) (D : GrD) : Prop where
  low : B ≤ gb
  blk : w.heap[gb]? = some (.cells #[.pointer (some ⟨V.bb, 0, none⟩), V.ev, V.dv, V.tv] 106 (0, 0))
  bld : BldAt B w V.bb V.lv D.n D.l
  er : w.ownsRow B 65 1 V.ev D.es.length V.vs
  ee : ∀ k, w.ownsRow B 30 32 (V.vs.getD k nilS) (D.es.getD k []).length (hcells (D.es.getD k []))
  dr : w.ownsRow B 112 1 V.dv D.ls.length V.dvs
  de : ∀ k, w.ownsRow B 117 4 (V.dvs.getD k nilS) (D.ls.getD k []).length (laidCs (D.ls.getD k []))
  lh : ∀ k, ∀ x ∈ D.ls.getD k [], w.ownsRow B 30 32 x.v x.hs.length (hcells x.hs)
  tr : w.ownsRow B 4 1 V.tv D.ts.length (D.ts.map Value.bool)
  len : D.ls.length = D.ts.length
  ape : ∀ j k g, j ≠ k → (V.vs.getD j nilS).ownBlock = some g → (V.vs.getD k nilS).ownBlock ≠ some g
  apl : ∀ k g, V.lv.ownBlock = some g → (V.vs.getD k nilS).ownBlock ≠ some g
  aph : ∀ k, ∀ x ∈ D.ls.getD k [], ∀ g, x.v.ownBlock = some g → V.lv.ownBlock ≠ some g ∧ ∀ j, (V.vs.getD j nilS).ownBlock ≠ some g
  apd : ∀ j k g, j ≠ k → (V.dvs.getD j nilS).ownBlock = some g → (V.dvs.getD k nilS).ownBlock ≠ some g
/-- The old blocks in S hold elements of type T. -/
def TyIn (S : Nat → Prop) (w : World) (T : TypeId) : Prop := ∀ g, S g → ∃ c f, w.heap[g]? = some (.cells c T f)
theorem own_ty {S : Nat → Prop} {w w' : World} {T : TypeId} {B e size n : Nat} {v : Value} {xs : List Value} (h : w.ownsRow B e size v n xs) (u : Upd S w w') (hS : TyIn S w T) (hne : e ≠ T) : w'.ownsRow B e size v n xs :=
  ownsRow_upd h u (fun g hg hs => by
    obtain ⟨c, f, hc⟩ := hS g hs
    exact rowNe h hc hne g hg rfl)
theorem blk_ty {S : Nat → Prop} {w w' : World} {T : TypeId} {b : Nat} {cs : Array Value} {t : TypeId} {f : Nat × Nat} (h : w.heap[b]? = some (.cells cs t f)) (u : Upd S w w') (hS : TyIn S w T) (hne : t ≠ T) : w'.heap[b]? = some (.cells cs t f) :=
  u.blk h (fun hs => by
    obtain ⟨c, f', hc⟩ := hS b hs
    exact tyNe h hc hne rfl)
theorem tyIn_one {w : World} {g : Nat} {c : Array Value} {T : TypeId} {f : Nat × Nat} (h : w.heap[g]? = some (.cells c T f)) : TyIn (one g) w T := fun k hk => by
  have e : k = g := hk
  subst e; exact ⟨_, _, h⟩
theorem tyIn_row {w : World} {B e size n : Nat} {v : Value} {xs : List Value} (h : w.ownsRow B e size v n xs) : TyIn (fun g => v.ownBlock = some g) w e := fun g hg => by
  obtain ⟨c, hc⟩ := rowT h hg
  exact ⟨c, _, hc⟩
/-- A cell of an own row of one-cell elements is written. -/
theorem row_set {w : World} {B e n g c : Nat} {xs : List Value} (h : w.ownsRow B e 1 (.slice (some ⟨g, 0, none⟩) n c) n xs) (k : Nat) (hk : k < n) (v : Value) : (w.setCell ⟨g, k, none⟩ v).ownsRow B e 1 (.slice (some ⟨g, 0, none⟩) n c) n (xs.set k v) := by
  have hl := h.1
  rcases h.2 with ⟨hv, _⟩ | ⟨g', cap, cur, hv, hb, hg, hnc, hcm, hcs, ht⟩
  · cases hv
  · simp only [Value.slice.injEq, Option.some.injEq, Addr.mk.injEq, true_and, and_true] at hv
    obtain ⟨rfl, rfl⟩ := hv
    refine ⟨by rw [List.length_set]; exact hl, .inr ⟨g, c, _, rfl, hb, blk_set hg k v, hnc, hcm, by simpa using hcs, ?_⟩⟩
    rw [← ht]
    simp [List.take_set]
/-- The old blocks in S hold elements of these types. -/
def TysIn (S : Nat → Prop) (w : World) (Ts : List TypeId) : Prop := ∀ g, g < w.heap.size → S g → ∃ c T f, T ∈ Ts ∧ w.heap[g]? = some (.cells c T f)
theorem own_tys {S : Nat → Prop} {w w' : World} {Ts : List TypeId} {B e size n : Nat} {v : Value} {xs : List Value} (h : w.ownsRow B e size v n xs) (u : Upd S w w') (hS : TysIn S w Ts) (hne : e ∉ Ts) : w'.ownsRow B e size v n xs :=
  ownsRow_upd h u (fun g hg hs => by
    obtain ⟨c, T, f, hT, hc⟩ := hS g (h.lt g hg).2 hs
    exact rowNe h hc (fun e => hne (e ▸ hT)) g hg rfl)
theorem blk_tys {S : Nat → Prop} {w w' : World} {Ts : List TypeId} {b : Nat} {cs : Array Value} {t : TypeId} {f : Nat × Nat} (h : w.heap[b]? = some (.cells cs t f)) (u : Upd S w w') (hS : TysIn S w Ts) (hne : t ∉ Ts) : w'.heap[b]? = some (.cells cs t f) :=
  u.blk h (fun hs => by
    obtain ⟨c, T, f', hT, hc⟩ := hS b (lt_of_blk h) hs
    exact tyNe h hc (fun e => hne (e ▸ hT)) rfl)
theorem tys_none {w : World} : TysIn none' w [] := fun g _ h => h.elim
theorem BldAt.tys {S : Nat → Prop} {w w' : World} {Ts : List TypeId} {B b n : Nat} {lv : Value} {l : List HB} (h : BldAt B w b lv n l) (u : Upd S w w') (hS : TysIn S w Ts) (h1 : 170 ∉ Ts) (h2 : 30 ∉ Ts) : BldAt B w' b lv n l :=
  ⟨blk_tys h.blk u hS h1, own_tys h.row u hS h2, h.lo⟩
section
variable {B gb : Nat} {w w' : World} {V : GrV} {D : GrD} {S : Nat → Prop} {Ts : List TypeId}
theorem GrAt.tys (h : GrAt B w gb V D) (u : Upd S w w') (hS : TysIn S w Ts) (h1 : 106 ∉ Ts) (h2 : 170 ∉ Ts) (h3 : 30 ∉ Ts) (h4 : 65 ∉ Ts) (h5 : 112 ∉ Ts) (h6 : 117 ∉ Ts) (h7 : 4 ∉ Ts) : GrAt B w' gb V D :=
  ⟨h.low, blk_tys h.blk u hS h1, h.bld.tys u hS h2 h3, own_tys h.er u hS h4, fun k => own_tys (h.ee k) u hS h3, own_tys h.dr u hS h5, fun k => own_tys (h.de k) u hS h6, fun k x hx => own_tys (h.lh k x hx) u hS h3, own_tys h.tr u hS h7, h.len, h.ape, h.apl, h.aph, h.apd⟩
theorem GrAt.ext (h : GrAt B w gb V D) (u : Ext w w') : GrAt B w' gb V D := h.tys u tys_none (by simp) (by simp) (by simp) (by simp) (by simp) (by simp) (by simp)
/-- A leaf more in the builder. -/
theorem GrAt.add {lv' : Value} {n' : Nat} {l' : List HB} (h : GrAt B w gb V D) (u : Upd (fpE V.bb V.lv) w w') (hb : BldAt B w' V.bb lv' n' l') (hat : ∀ g, lv'.ownBlock = some g → V.lv.ownBlock = some g ∨ w.heap.size ≤ g) :
    GrAt B w' gb { V with lv := lv' } { D with n := n', l := l' } := by
  have hS : TysIn (fpE V.bb V.lv) w [170, 30] := fun g _ hg => by
    rcases hg with e | e
    · have e2 : g = V.bb := e
      subst e2
      exact ⟨_, _, _, by simp, h.bld.blk⟩
    · obtain ⟨c, hc⟩ := rowT h.bld.row e
      exact ⟨_, _, _, by simp, hc⟩
  have hrow : ∀ {v : Value} {n : Nat} {xs : List Value}, w.ownsRow B 30 32 v n xs → (∀ g, v.ownBlock = some g → V.lv.ownBlock ≠ some g) → w'.ownsRow B 30 32 v n xs := fun hr hn =>
    ownsRow_upd hr u (fun g hg hs => by
      rcases hs with e | e
      · have e2 : g = V.bb := e
        exact rowNe hr h.bld.blk (by decide) g hg e2
      · exact hn g hg e)
  refine ⟨h.low, blk_tys h.blk u hS (by decide), hb, own_tys h.er u hS (by decide), fun k => hrow (h.ee k) (fun g hg e => h.apl k g e hg), own_tys h.dr u hS (by decide), fun k => own_tys (h.de k) u hS (by decide), fun k x hx => hrow (h.lh k x hx) (fun g hg => (h.aph k x hx g hg).1), own_tys h.tr u hS (by decide), h.len, h.ape, fun k g hg e => ?_, fun k x hx g hg => ⟨fun e => ?_, (h.aph k x hx g hg).2⟩, h.apd⟩
  · rcases hat g hg with h1 | h1
    · exact h.apl k g h1 e
    · have := ((h.ee k).lt g e).2
      omega
  · rcases hat g e with h1 | h1
    · exact (h.aph k x hx g hg).1 h1
    · have := ((h.lh k x hx).lt g hg).2
      omega
theorem getD_snoc {α : Type} (l : List α) (x : α) (k : Nat) : (l ++ [x]).getD k x = l.getD k x := by
  rw [List.getD_eq_getElem?_getD, List.getD_eq_getElem?_getD]
  rcases Nat.lt_or_ge k l.length with h | h
  · rw [List.getElem?_append_left h]
  · rw [List.getElem?_append_right h, List.getElem?_eq_none h]
    cases hk : k - l.length with
    | zero => simp
    | succ m => simp
/-- A level more of edges. -/
theorem GrAt.moreE {ev' : Value} (h : GrAt B w gb V D) (u : Upd S w w') (hS : TysIn S w [106, 65]) (hb : w'.heap[gb]? = some (.cells #[.pointer (some ⟨V.bb, 0, none⟩), ev', V.dv, V.tv] 106 (0, 0)))
    (hr : w'.ownsRow B 65 1 ev' (D.es.length + 1) (V.vs ++ [nilS])) : GrAt B w' gb { V with ev := ev', vs := V.vs ++ [nilS] } { D with es := D.es ++ [[]] } := by
  refine ⟨h.low, hb, h.bld.tys u hS (by decide) (by decide), by simpa using hr, fun k => ?_, own_tys h.dr u hS (by decide), fun k => own_tys (h.de k) u hS (by decide), fun k x hx => own_tys (h.lh k x hx) u hS (by decide), own_tys h.tr u hS (by decide), h.len, fun j k g hjk hg => ?_, fun k g hg => ?_, fun k x hx g hg => ⟨(h.aph k x hx g hg).1, fun j => ?_⟩, h.apd⟩
  · show w'.ownsRow B 30 32 ((V.vs ++ [nilS]).getD k nilS) ((D.es ++ [[]]).getD k []).length (hcells ((D.es ++ [[]]).getD k []))
    rw [getD_snoc, getD_snoc]
    exact own_tys (h.ee k) u hS (by decide)
  · have hg' : ((V.vs ++ [nilS]).getD j nilS).ownBlock = some g := hg
    show ((V.vs ++ [nilS]).getD k nilS).ownBlock ≠ some g
    rw [getD_snoc] at hg' ⊢
    exact h.ape j k g hjk hg'
  · show ((V.vs ++ [nilS]).getD k nilS).ownBlock ≠ some g
    rw [getD_snoc]
    exact h.apl k g hg
  · show ((V.vs ++ [nilS]).getD j nilS).ownBlock ≠ some g
    rw [getD_snoc]
    exact (h.aph k x hx g hg).2 j
/-- A level more of what was touched and of tiles. -/
theorem GrAt.moreT {dv' tv' : Value} (h : GrAt B w gb V D) (u : Upd S w w') (hS : TysIn S w [106, 112, 4]) (hb : w'.heap[gb]? = some (.cells #[.pointer (some ⟨V.bb, 0, none⟩), V.ev, dv', tv'] 106 (0, 0)))
    (hr : w'.ownsRow B 112 1 dv' (D.ls.length + 1) (V.dvs ++ [nilS])) (ht : w'.ownsRow B 4 1 tv' (D.ts.length + 1) (D.ts.map Value.bool ++ [.bool false])) :
    GrAt B w' gb { V with dv := dv', tv := tv', dvs := V.dvs ++ [nilS] } { D with ls := D.ls ++ [[]], ts := D.ts ++ [false] } := by
  refine ⟨h.low, hb, h.bld.tys u hS (by decide) (by decide), own_tys h.er u hS (by decide), fun k => own_tys (h.ee k) u hS (by decide), by simpa using hr, fun k => ?_, fun k x hx => ?_, by simpa using ht, by simp [h.len], h.ape, h.apl, fun k x hx g hg => ?_, fun j k g hjk hg => ?_⟩
  · show w'.ownsRow B 117 4 ((V.dvs ++ [nilS]).getD k nilS) ((D.ls ++ [[]]).getD k []).length (laidCs ((D.ls ++ [[]]).getD k []))
    rw [getD_snoc, getD_snoc]
    exact own_tys (h.de k) u hS (by decide)
  · have hx' : x ∈ (D.ls ++ [[]]).getD k [] := hx
    rw [getD_snoc] at hx'
    exact own_tys (h.lh k x hx') u hS (by decide)
  · have hx' : x ∈ (D.ls ++ [[]]).getD k [] := hx
    rw [getD_snoc] at hx'
    exact h.aph k x hx' g hg
  · have hg' : ((V.dvs ++ [nilS]).getD j nilS).ownBlock = some g := hg
    show ((V.dvs ++ [nilS]).getD k nilS).ownBlock ≠ some g
    rw [getD_snoc] at hg' ⊢
    exact h.apd j k g hjk hg'
/-- A level was touched. -/
theorem GrAt.touch {ts' : List Bool} (h : GrAt B w gb V D) (u : Upd S w w') (hS : TysIn S w [4]) (hl : ts'.length = D.ts.length) (ht : w'.ownsRow B 4 1 V.tv D.ts.length (ts'.map Value.bool)) : GrAt B w' gb V { D with ts := ts' } :=
  ⟨h.low, blk_tys h.blk u hS (by decide), h.bld.tys u hS (by decide) (by decide), own_tys h.er u hS (by decide), fun k => own_tys (h.ee k) u hS (by decide), own_tys h.dr u hS (by decide), fun k => own_tys (h.de k) u hS (by decide), fun k x hx => own_tys (h.lh k x hx) u hS (by decide), by rw [hl]; exact ht, by rw [hl]; exact h.len, h.ape, h.apl, h.aph, h.apd⟩
theorem getD_put {α : Type} (l : List α) (k j : Nat) (x d : α) (hk : k < l.length) : (l.set k x).getD j d = if j = k then x else l.getD j d := by
  rw [List.getD_eq_getElem?_getD, List.getD_eq_getElem?_getD, List.getElem?_set]
  by_cases h : k = j
  · subst h; simp [hk]
  · rw [if_neg h, if_neg (fun e => h e.symm)]
/-- A hash more in the edge of level k. -/
theorem GrAt.pushE {k : Nat} {v' : Value} {x : HB} (h : GrAt B w gb V D) (hk : k < D.es.length) (u : Upd S w w') (hS : ∀ g, g < w.heap.size → S g → (V.vs.getD k nilS).ownBlock = some g ∨ ∃ c f, w.heap[g]? = some (.cells c 65 f))
    (her : w'.ownsRow B 65 1 V.ev D.es.length (V.vs.set k v')) (hee : w'.ownsRow B 30 32 v' ((D.es.getD k []).length + 1) (hcells (D.es.getD k [] ++ [x])))
    (hat : ∀ g, v'.ownBlock = some g → (V.vs.getD k nilS).ownBlock = some g ∨ w.heap.size ≤ g) : GrAt B w' gb { V with vs := V.vs.set k v' } { D with es := D.es.set k (D.es.getD k [] ++ [x]) } := by
  have hkv : k < V.vs.length := by have := h.er.1; omega
  have hT : TysIn S w [30, 65] := fun g hgs hg => by
    rcases hS g hgs hg with e | ⟨c, f, e⟩
    · obtain ⟨c, hc⟩ := rowT (h.ee k) e
      exact ⟨c, _, _, by simp, hc⟩
    · exact ⟨c, _, f, by simp, e⟩
  have hrow : ∀ {v : Value} {n : Nat} {xs : List Value}, w.ownsRow B 30 32 v n xs → (∀ g, v.ownBlock = some g → (V.vs.getD k nilS).ownBlock ≠ some g) → w'.ownsRow B 30 32 v n xs := fun hr hn =>
    ownsRow_upd hr u (fun g hg hs => by
      rcases hS g (hr.lt g hg).2 hs with e | ⟨c, f, e⟩
      · exact hn g hg e
      · exact rowNe hr e (by decide) g hg rfl)
  have hapv : ∀ j g, j ≠ k → (V.vs.getD j nilS).ownBlock = some g → v'.ownBlock ≠ some g := fun j g hj hg e => by
    rcases hat g e with h1 | h1
    · exact h.ape j k g hj hg h1
    · have := ((h.ee j).lt g hg).2
      omega
  refine ⟨h.low, blk_tys h.blk u hT (by decide), ⟨blk_tys h.bld.blk u hT (by decide), hrow h.bld.row (fun g hg => h.apl k g hg), h.bld.lo⟩, by simpa using her, fun j => ?_, own_tys h.dr u hT (by decide), fun j => own_tys (h.de j) u hT (by decide), fun j y hy => hrow (h.lh j y hy) (fun g hg => (h.aph j y hy g hg).2 k), own_tys h.tr u hT (by decide), h.len, fun i j g hij hg => ?_, fun j g hg => ?_, fun i y hy g hg => ⟨(h.aph i y hy g hg).1, fun j => ?_⟩, h.apd⟩
  · show w'.ownsRow B 30 32 ((V.vs.set k v').getD j nilS) ((D.es.set k (D.es.getD k [] ++ [x])).getD j []).length (hcells ((D.es.set k (D.es.getD k [] ++ [x])).getD j []))
    rw [getD_put _ _ _ _ _ hkv, getD_put _ _ _ _ _ hk]
    by_cases hjk : j = k
    · rw [if_pos hjk, if_pos hjk]
      simpa using hee
    · rw [if_neg hjk, if_neg hjk]
      exact hrow (h.ee j) (fun g hg => h.ape j k g hjk hg)
  · have hg' : ((V.vs.set k v').getD i nilS).ownBlock = some g := hg
    show ((V.vs.set k v').getD j nilS).ownBlock ≠ some g
    rw [getD_put _ _ _ _ _ hkv] at hg' ⊢
    by_cases hik : i = k
    · rw [if_pos hik] at hg'
      rw [if_neg (fun e => hij (hik.trans e.symm))]
      intro e
      exact hapv j g (fun e2 => hij (hik.trans e2.symm)) e hg'
    · rw [if_neg hik] at hg'
      by_cases hjk : j = k
      · rw [if_pos hjk]; exact hapv i g hik hg'
      · rw [if_neg hjk]; exact h.ape i j g hij hg'
  · show ((V.vs.set k v').getD j nilS).ownBlock ≠ some g
    rw [getD_put _ _ _ _ _ hkv]
    by_cases hjk : j = k
    · rw [if_pos hjk]
      intro e
      rcases hat g e with h1 | h1
      · exact h.apl k g hg h1
      · have := (h.bld.row.lt g hg).2
        omega
    · rw [if_neg hjk]; exact h.apl j g hg
  · show ((V.vs.set k v').getD j nilS).ownBlock ≠ some g
    rw [getD_put _ _ _ _ _ hkv]
    by_cases hjk : j = k
    · rw [if_pos hjk]
      intro e
      rcases hat g e with h1 | h1
      · exact (h.aph i y hy g hg).2 k h1
      · have := ((h.lh i y hy).lt g hg).2
        omega
    · rw [if_neg hjk]; exact (h.aph i y hy g hg).2 j
/-- The edge of level k is a tile that is whole. -/
theorem GrAt.full {k : Nat} {dv' : Value} {i wd : Nat} (h : GrAt B w gb V D) (hk : k < D.es.length) (hkl : k < D.ls.length) (u : Upd S w w') (hS : ∀ g, g < w.heap.size → S g → (V.dvs.getD k nilS).ownBlock = some g ∨ ∃ c T f, T ∈ [65, 112] ∧ w.heap[g]? = some (.cells c T f))
    (her : w'.ownsRow B 65 1 V.ev D.es.length (V.vs.set k nilS)) (hdr : w'.ownsRow B 112 1 V.dv D.ls.length (V.dvs.set k dv'))
    (hde : w'.ownsRow B 117 4 dv' ((D.ls.getD k []).length + 1) (laidCs (D.ls.getD k [] ++ [⟨k, i, wd, D.es.getD k [], V.vs.getD k nilS⟩])))
    (hat : ∀ g, dv'.ownBlock = some g → (V.dvs.getD k nilS).ownBlock = some g ∨ w.heap.size ≤ g) :
    GrAt B w' gb { V with vs := V.vs.set k nilS, dvs := V.dvs.set k dv' } { D with es := D.es.set k [], ls := D.ls.set k (D.ls.getD k [] ++ [⟨k, i, wd, D.es.getD k [], V.vs.getD k nilS⟩]) } := by
  have hkv : k < V.vs.length := by have := h.er.1; omega
  have hkd : k < V.dvs.length := by have := h.dr.1; omega
  have hT : TysIn S w [117, 65, 112] := fun g hgs hg => by
    rcases hS g hgs hg with e | ⟨c, T, f, hTT, e⟩
    · obtain ⟨c, hc⟩ := rowT (h.de k) e
      exact ⟨c, _, _, by simp, hc⟩
    · exact ⟨c, T, f, List.mem_cons_of_mem _ hTT, e⟩
  have hrow : ∀ {v : Value} {n : Nat} {xs : List Value}, w.ownsRow B 117 4 v n xs → (∀ g, v.ownBlock = some g → (V.dvs.getD k nilS).ownBlock ≠ some g) → w'.ownsRow B 117 4 v n xs := fun hr hn =>
    ownsRow_upd hr u (fun g hg hs => by
      rcases hS g (hr.lt g hg).2 hs with e | ⟨c, T, f, hTT, e⟩
      · exact hn g hg e
      · exact rowNe hr e (fun e2 => absurd (e2 ▸ hTT) (by decide)) g hg rfl)
  have hapv : ∀ j g, j ≠ k → (V.dvs.getD j nilS).ownBlock = some g → dv'.ownBlock ≠ some g := fun j g hj hg e => by
    rcases hat g e with h1 | h1
    · exact h.apd j k g hj hg h1
    · have := ((h.de j).lt g hg).2
      omega
  have hvk : ∀ j g, ((V.vs.set k nilS).getD j nilS).ownBlock = some g → j ≠ k ∧ (V.vs.getD j nilS).ownBlock = some g := fun j g hg => by
    rw [getD_put _ _ _ _ _ hkv] at hg
    by_cases hjk : j = k
    · rw [if_pos hjk] at hg; cases hg
    · rw [if_neg hjk] at hg; exact ⟨hjk, hg⟩
  refine ⟨h.low, blk_tys h.blk u hT (by decide), h.bld.tys u hT (by decide) (by decide), by simpa using her, fun j => ?_, by simpa using hdr, fun j => ?_, fun j y hy => ?_, own_tys h.tr u hT (by decide), by simpa using h.len, fun a j g hij hg => ?_, fun j g hg e => ?_, fun a y hy g hg => ?_, fun a j g hij hg => ?_⟩
  · show w'.ownsRow B 30 32 ((V.vs.set k nilS).getD j nilS) ((D.es.set k []).getD j []).length (hcells ((D.es.set k []).getD j []))
    rw [getD_put _ _ _ _ _ hkv, getD_put _ _ _ _ _ hk]
    by_cases hjk : j = k
    · rw [if_pos hjk, if_pos hjk]
      exact World.ownsRow_nil _ _ _ _
    · rw [if_neg hjk, if_neg hjk]
      exact own_tys (h.ee j) u hT (by decide)
  · show w'.ownsRow B 117 4 ((V.dvs.set k dv').getD j nilS) ((D.ls.set k (D.ls.getD k [] ++ [⟨k, i, wd, D.es.getD k [], V.vs.getD k nilS⟩])).getD j []).length (laidCs ((D.ls.set k (D.ls.getD k [] ++ [⟨k, i, wd, D.es.getD k [], V.vs.getD k nilS⟩])).getD j []))
    rw [getD_put _ _ _ _ _ hkd, getD_put _ _ _ _ _ hkl]
    by_cases hjk : j = k
    · rw [if_pos hjk, if_pos hjk]
      simpa using hde
    · rw [if_neg hjk, if_neg hjk]
      exact hrow (h.de j) (fun g hg => h.apd j k g hjk hg)
  · have hy' : y ∈ (D.ls.set k (D.ls.getD k [] ++ [⟨k, i, wd, D.es.getD k [], V.vs.getD k nilS⟩])).getD j [] := hy
    rw [getD_put _ _ _ _ _ hkl] at hy'
    by_cases hjk : j = k
    · rw [if_pos hjk] at hy'
      rcases List.mem_append.1 hy' with h1 | h1
      · exact own_tys (h.lh k y h1) u hT (by decide)
      · rw [List.mem_singleton.1 h1]
        exact own_tys (h.ee k) u hT (by decide)
    · rw [if_neg hjk] at hy'
      exact own_tys (h.lh j y hy') u hT (by decide)
  · intro e
    obtain ⟨h1, h2⟩ := hvk a g hg
    obtain ⟨h3, h4⟩ := hvk j g e
    exact h.ape a j g hij h2 h4
  · obtain ⟨_, h2⟩ := hvk j g e
    exact h.apl j g hg h2
  · have hy' : y ∈ (D.ls.set k (D.ls.getD k [] ++ [⟨k, i, wd, D.es.getD k [], V.vs.getD k nilS⟩])).getD a [] := hy
    rw [getD_put _ _ _ _ _ hkl] at hy'
    have hold : ∀ b, y ∈ D.ls.getD b [] → V.lv.ownBlock ≠ some g ∧ ∀ j, ((V.vs.set k nilS).getD j nilS).ownBlock ≠ some g := fun b hb => ⟨(h.aph b y hb g hg).1, fun j e => by
      obtain ⟨_, h2⟩ := hvk j g e
      exact (h.aph b y hb g hg).2 j h2⟩
    by_cases hjk : a = k
    · rw [if_pos hjk] at hy'
      rcases List.mem_append.1 hy' with h1 | h1
      · exact hold k h1
      · rw [List.mem_singleton.1 h1] at hg
        refine ⟨fun e => h.apl k g e hg, fun j e => ?_⟩
        obtain ⟨h2, h3⟩ := hvk j g e
        exact h.ape j k g h2 h3 hg
    · rw [if_neg hjk] at hy'
      exact hold a hy'
  · have hg' : ((V.dvs.set k dv').getD a nilS).ownBlock = some g := hg
    show ((V.dvs.set k dv').getD j nilS).ownBlock ≠ some g
    rw [getD_put _ _ _ _ _ hkd] at hg' ⊢
    by_cases hik : a = k
    · rw [if_pos hik] at hg'
      rw [if_neg (fun e => hij (hik.trans e.symm))]
      intro e
      exact hapv j g (fun e2 => hij (hik.trans e2.symm)) e hg'
    · rw [if_neg hik] at hg'
      by_cases hjk : j = k
      · rw [if_pos hjk]; exact hapv a g hik hg'
      · rw [if_neg hjk]; exact h.apd a j g hij hg'
end

section
variable {P : Program} {ops : Array Oper} {Q : Exit → Act → World → Prop} {md : Region.Mode} {S : World → Prop} {Bs : List Nat}
def openB (Bs : List Nat) (listed : Array Bool) : Bool := Bs.all fun b => !listed.getD b false
def waitsB (md : Region.Mode) (ops : Array Oper) (Bs : List Nat) (i : Nat) : Bool := Bs.all fun b => b != i && match ops[b]? with | some ob => ob.after.toList.any (fun e => Region.binds md e && e.on == i) | none => false
def wpAnyB (P : Program) (md : Region.Mode) (ops : Array Oper) (Q : Exit → Act → World → Prop) (S : World → Prop) (Bs : List Nat) : Nat → Array Bool → Act → World → Prop
  | 0, listed, a, w => Region.ready md ops listed = [] ∧ Q .normal a w
  | fuel + 1, listed, a, w =>
    (Region.ready md ops listed = [] → Q .normal a w) ∧
    ∀ i ∈ Region.ready md ops listed, wpOp P ops Q i (fun a' w' => (openB Bs (listed.setIfInBounds i true) = true → S w') ∧ wpAnyB P md ops Q S Bs fuel (listed.setIfInBounds i true) a' w') a w
theorem wpAny_of_bar : ∀ (fuel : Nat) (listed : Array Bool) (a : Act) (w : World), wpAnyB P md ops Q S Bs fuel listed a w → wpAny P md ops Q fuel listed a w
  | 0, _, _, _, h => h
  | fuel + 1, _, _, _, h => ⟨h.1, fun i hi => wpOp_mono (fun a' w' h' => wpAny_of_bar fuel _ a' w' h'.2) (h.2 i hi)⟩
theorem open_set {listed : Array Bool} {j : Nat} (h : openB Bs listed = true) (hj : j ∉ Bs) : openB Bs (listed.setIfInBounds j true) = true := by
  unfold openB at *
  rw [List.all_eq_true] at *
  intro b hb
  have h1 := h b hb
  rw [getD_set_ne false (show j ≠ b from fun e => hj (by rw [e]; exact hb))]
  exact h1
theorem wpAnyB_first {i : Nat} {oi : Oper} {v : Value} (hi : ops[i]? = some oi) (hsel : ∀ (j : Nat) (o : Oper) cs b, ops[j]? = some o → o.op ≠ .select cs b)
    (hQ : ∀ c a w, Q (.panic c) (a.put oi.dst v) w → Q (.panic c) a w) (hw : waitsB md ops Bs i = true) :
    ∀ (fuel : Nat) (listed : Array Bool) (a : Act) (w : World),
      (∀ j oj, ops[j]? = some oj → j ≠ i → listed.getD j true = false → (∀ e ∈ oj.after, Region.binds md e = true → e.on ≠ i) → oi.apart ops oj = true) →
      i ∈ Region.ready md ops listed → YieldsIf P ops S oi v a → S w → openB Bs listed = true →
      wpAnyB P md ops Q S Bs fuel (listed.setIfInBounds i true) (a.put oi.dst v) w → wpAnyB P md ops Q S Bs (fuel + 1) listed a w := by
  have hiB : i ∉ Bs := fun h => by
    have := List.all_eq_true.1 hw i h
    simp at this
  intro fuel
  induction fuel with
  | zero =>
    intro listed a w _ hr hy hS ho H
    refine ⟨fun h => (by rw [h] at hr; cases hr), fun j hj => ?_⟩
    by_cases hji : j = i
    · subst hji; exact hy.wpOp hi hS ⟨fun _ => hS, H⟩
    · have := ready_mono hj hji
      rw [H.1] at this
      cases this
  | succ fuel ih =>
    intro listed a w hfree hr hy hS ho H
    refine ⟨fun h => (by rw [h] at hr; cases hr), fun j hj => ?_⟩
    by_cases hji : j = i
    · subst hji; exact hy.wpOp hi hS ⟨fun _ => hS, H⟩
    · have h1 := H.2 j (ready_mono hj hji)
      obtain ⟨hjun, oj, hoj, hall⟩ := mem_ready.1 hj
      have hnot : ∀ e ∈ oj.after, Region.binds md e = true → e.on ≠ i := fun e he hb heq => by
        have h1 := hall e he hb
        have h0 := (mem_ready.1 hr).1
        rw [heq] at h1
        rcases Nat.lt_or_ge i listed.size with h' | h'
        · simp [h'] at h0 h1; rw [h0] at h1; cases h1
        · simp [Array.getElem?_eq_none h'] at h1
      have hjB : j ∉ Bs := fun h => by
        have h2 := List.all_eq_true.1 hw j h
        simp only [hoj, Bool.and_eq_true, List.any_eq_true, beq_iff_eq] at h2
        obtain ⟨_, e, he, hb, heq⟩ := h2
        exact hnot e (by simpa using he) hb heq
      have hop2 : openB Bs ((listed.setIfInBounds i true).setIfInBounds j true) = true := open_set (open_set ho hiB) hjB
      have h2 := wpOp_putIf hoj (hfree j oj hoj hji hjun hnot) (fun cs b => hsel i oi cs b hi) (fun cs b => hsel j oj cs b hoj) hQ hy h1
      have hfree' : ∀ k ok, ops[k]? = some ok → k ≠ i → (listed.setIfInBounds j true).getD k true = false →
          (∀ e ∈ ok.after, Region.binds md e = true → e.on ≠ i) → oi.apart ops ok = true := fun k ok hk hki hun hno => by
        refine hfree k ok hk hki ?_ hno
        by_cases hjk : j = k
        · subst hjk; exact hjun
        · rw [getD_set_ne true hjk] at hun; exact hun
      refine wpOp_mono (fun a' w' h3 => ⟨fun _ => h3.2.1 hop2, ih (listed.setIfInBounds j true) a' w' hfree' (ready_mono hr (Ne.symm hji)) h3.1 (h3.2.1 hop2) (open_set ho hjB) ?_⟩) h2
      rw [Array.setIfInBounds_comm _ _ hji]
      exact h3.2.2
theorem bar_take {i : Nat} {oi : Oper} {v : Value} {fuel : Nat} {listed : Array Bool} {a : Act} {w : World} (hi : ops[i]? = some oi)
    (hs : Region.noSelect ops = true) (hf : Region.free md ops listed i = true) (hr : (Region.ready md ops listed).contains i = true) (hw : waitsB md ops Bs i = true) (ho : openB Bs listed = true)
    (hQ : ∀ c a w, Q (.panic c) (a.put oi.dst v) w → Q (.panic c) a w) (hy : YieldsIf P ops S oi v a) (hS : S w)
    (h : wpAnyB P md ops Q S Bs fuel (listed.setIfInBounds i true) (a.put oi.dst v) w) : wpAnyB P md ops Q S Bs (fuel + 1) listed a w :=
  wpAnyB_first hi (Region.noSelect_spec hs) hQ hw fuel listed a w (Region.free_spec hi hf) (by simpa using hr) hy hS ho h
/-- An operation that yields its value in whatever world, taken first. -/
theorem wpAnyB_pure {i : Nat} {oi : Oper} {v : Value} (hi : ops[i]? = some oi) (hsel : ∀ (j : Nat) (o : Oper) cs b, ops[j]? = some o → o.op ≠ .select cs b)
    (hQ : ∀ c a w, Q (.panic c) (a.put oi.dst v) w → Q (.panic c) a w) (hiB : i ∉ Bs) :
    ∀ (fuel : Nat) (listed : Array Bool) (a : Act) (w : World),
      (∀ j oj, ops[j]? = some oj → j ≠ i → listed.getD j true = false → (∀ e ∈ oj.after, Region.binds md e = true → e.on ≠ i) → oi.apart ops oj = true) →
      i ∈ Region.ready md ops listed → YieldsIf P ops (fun _ => True) oi v a → (openB Bs listed = true → S w) →
      wpAnyB P md ops Q S Bs fuel (listed.setIfInBounds i true) (a.put oi.dst v) w → wpAnyB P md ops Q S Bs (fuel + 1) listed a w := by
  have hop : ∀ {L : Array Bool}, openB Bs (L.setIfInBounds i true) = true → openB Bs L = true := fun {L} h => by
    unfold openB at *
    rw [List.all_eq_true] at *
    intro b hb
    have h1 := h b hb
    rwa [getD_set_ne false (show i ≠ b from fun e => hiB (by rw [e]; exact hb))] at h1
  intro fuel
  induction fuel with
  | zero =>
    intro listed a w _ hr hy hS H
    refine ⟨fun h => (by rw [h] at hr; cases hr), fun j hj => ?_⟩
    by_cases hji : j = i
    · subst hji; exact hy.wpOp hi trivial ⟨fun ho => hS (hop ho), H⟩
    · have := ready_mono hj hji
      rw [H.1] at this
      cases this
  | succ fuel ih =>
    intro listed a w hfree hr hy hS H
    refine ⟨fun h => (by rw [h] at hr; cases hr), fun j hj => ?_⟩
    by_cases hji : j = i
    · subst hji; exact hy.wpOp hi trivial ⟨fun ho => hS (hop ho), H⟩
    · have h1 := H.2 j (ready_mono hj hji)
      obtain ⟨hjun, oj, hoj, hall⟩ := mem_ready.1 hj
      have hnot : ∀ e ∈ oj.after, Region.binds md e = true → e.on ≠ i := fun e he hb heq => by
        have h1 := hall e he hb
        have h0 := (mem_ready.1 hr).1
        rw [heq] at h1
        rcases Nat.lt_or_ge i listed.size with h' | h'
        · simp [h'] at h0 h1; rw [h0] at h1; cases h1
        · simp [Array.getElem?_eq_none h'] at h1
      have h2 := wpOp_putIf hoj (hfree j oj hoj hji hjun hnot) (fun cs b => hsel i oi cs b hi) (fun cs b => hsel j oj cs b hoj) hQ hy h1
      have hfree' : ∀ k ok, ops[k]? = some ok → k ≠ i → (listed.setIfInBounds j true).getD k true = false →
          (∀ e ∈ ok.after, Region.binds md e = true → e.on ≠ i) → oi.apart ops ok = true := fun k ok hk hki hun hno => by
        refine hfree k ok hk hki ?_ hno
        by_cases hjk : j = k
        · subst hjk; exact hjun
        · rw [getD_set_ne true hjk] at hun; exact hun
      have hS2 : ∀ w', (openB Bs ((listed.setIfInBounds i true).setIfInBounds j true) = true → S w') → (openB Bs (listed.setIfInBounds j true) = true → S w') := fun w' h ho => h (by
        rw [Array.setIfInBounds_comm _ _ (Ne.symm hji)]
        exact open_set ho hiB)
      refine wpOp_mono (fun a' w' h3 => ⟨hS2 w' h3.2.1, ih (listed.setIfInBounds j true) a' w' hfree' (ready_mono hr (Ne.symm hji)) h3.1 (hS2 w' h3.2.1) ?_⟩) h2
      rw [Array.setIfInBounds_comm _ _ hji]
      exact h3.2.2
theorem bar_pure (i : Nat) (v : Value) {oi : Oper} {fuel : Nat} {listed : Array Bool} {a : Act} {w : World} (hi : ops[i]? = some oi)
    (hs : Region.noSelect ops = true) (hf : Region.free md ops listed i = true) (hr : (Region.ready md ops listed).contains i = true) (hb : Bs.contains i = false)
    (hQ : ∀ c a w, Q (.panic c) (a.put oi.dst v) w → Q (.panic c) a w) (hwt : Region.wanted oi (yielded ops a.tmps) = true) (hrun : ∀ w, (execOp a.eval oi).run P w = .ok (.value v) w) (hS : openB Bs listed = true → S w)
    (h : wpAnyB P md ops Q S Bs fuel (listed.setIfInBounds i true) (a.put oi.dst v) w) : wpAnyB P md ops Q S Bs (fuel + 1) listed a w :=
  wpAnyB_pure hi (Region.noSelect_spec hs) hQ (by simpa using hb) fuel listed a w (Region.free_spec hi hf) (by simpa using hr) (.inl ⟨hwt, fun w _ => hrun w⟩) hS h
theorem wpAnyB_all {rs : List Nat} {fuel : Nat} {listed : Array Bool} {a : Act} {w : World} (hr : Region.ready md ops listed = rs) (hne : rs ≠ [])
    (h : ∀ i ∈ rs, wpOp P ops Q i (fun a' w' => (openB Bs (listed.setIfInBounds i true) = true → S w') ∧ wpAnyB P md ops Q S Bs fuel (listed.setIfInBounds i true) a' w') a w) : wpAnyB P md ops Q S Bs (fuel + 1) listed a w :=
  ⟨fun h0 => absurd (hr ▸ h0) hne, hr ▸ h⟩
theorem bar1 {fuel : Nat} {listed : Array Bool} {a : Act} {w : World} (i : Nat) (hr : Region.ready md ops listed = [i])
    (h : wpOp P ops Q i (fun a' w' => (openB Bs (listed.setIfInBounds i true) = true → S w') ∧ wpAnyB P md ops Q S Bs fuel (listed.setIfInBounds i true) a' w') a w) : wpAnyB P md ops Q S Bs (fuel + 1) listed a w :=
  wpAnyB_all hr (by simp) (fun j hj => by rw [List.mem_singleton.1 hj]; exact h)
theorem bar2 {fuel : Nat} {listed : Array Bool} {a : Act} {w : World} (i j : Nat) (hr : Region.ready md ops listed = [i, j])
    (h1 : wpOp P ops Q i (fun a' w' => (openB Bs (listed.setIfInBounds i true) = true → S w') ∧ wpAnyB P md ops Q S Bs fuel (listed.setIfInBounds i true) a' w') a w)
    (h2 : wpOp P ops Q j (fun a' w' => (openB Bs (listed.setIfInBounds j true) = true → S w') ∧ wpAnyB P md ops Q S Bs fuel (listed.setIfInBounds j true) a' w') a w) : wpAnyB P md ops Q S Bs (fuel + 1) listed a w :=
  wpAnyB_all hr (by simp) (fun m hm => by
    rcases List.mem_cons.1 hm with rfl | hm
    · exact h1
    · rw [List.mem_singleton.1 hm]; exact h2)
theorem bar_done {listed : Array Bool} {a : Act} {w : World} (hr : Region.ready md ops listed = []) (h : Q .normal a w) :
    ∀ fuel, wpAnyB P md ops Q S Bs fuel listed a w
  | 0 => ⟨hr, h⟩
  | _ + 1 => ⟨fun _ => h, by rw [hr]; simp⟩
theorem region_bar {id : Nat} {a : Act} {w : World} (S : World → Prop) (Bs : List Nat) (hm : P.follows .mixedOrders = true)
    (h : wpAnyB P .any ops Q S Bs ops.size (Array.replicate ops.size false) a w.drew) : (Code.region id ops true).wp P Q a w :=
  wp_region_any hm (wpAny_of_bar _ _ _ _ h)
/-- One step: a state written out anew. -/
theorem bar_norm {a a' : Act} {w : World} {n : Nat} {listed : Array Bool} (h : a = a') (hk : wpAnyB P md ops Q S Bs n listed a' w) : wpAnyB P md ops Q S Bs n listed a w := h ▸ hk
/-- A reading operation, taken first. -/
theorem bar_read (i : Nat) (v : Value) {oi : Oper} {fuel : Nat} {listed : Array Bool} {a : Act} {w : World} (hi : ops[i]? = some oi)
    (hs : Region.noSelect ops = true) (hf : Region.free md ops listed i = true) (hr : (Region.ready md ops listed).contains i = true) (hw : waitsB md ops Bs i = true) (ho : openB Bs listed = true)
    (hQ : ∀ c a w, Q (.panic c) (a.put oi.dst v) w → Q (.panic c) a w) (hwt : Region.wanted oi (yielded ops a.tmps) = true) (hrun : ∀ w, S w → (execOp a.eval oi).run P w = .ok (.value v) w) (hS : S w)
    (h : wpAnyB P md ops Q S Bs fuel (listed.setIfInBounds i true) (a.put oi.dst v) w) : wpAnyB P md ops Q S Bs (fuel + 1) listed a w :=
  bar_take hi hs hf hr hw ho hQ (.inl ⟨hwt, hrun⟩) hS h
end

abbrev SB (B b : Nat) (bs : List UInt8) (w : World) : Prop := Lib.IsBuilder 183 5 B b (bs.map u8v) w
set_option maxHeartbeats 1000000 in
set_option maxRecDepth 100000 in
theorem cc_used (b : Nat) (w : World) (h0 : w.cell? ⟨b, 0, none⟩ = some (.pointer (some ⟨b, 0, none⟩))) :
    Calls Tryz.prog 146 #[.pointer (some ⟨b, 0, none⟩)] w fun e w' => e = .returned (.tuple #[]) ∧ w' = w := by
  obtain ⟨j, hj, _⟩ := Option.map_eq_some_iff.1 (show (Tryz.prog.info? 183).map (·.size) = some 2 by kernel_rfl)
  go_enter Tryz.func146, Tryz.ntmps146
  go_wp2
  rw [Lib.run_neq_ptr_same w _ Tryz.underlying181 hj]
  go_wp2
  go_end0
  exact ⟨rfl, rfl⟩
set_option maxHeartbeats 1000000 in
set_option maxRecDepth 100000 in
theorem cc_fresh (b : Nat) (w : World) (h0 : w.cell? ⟨b, 0, none⟩ = some (.pointer none)) (hsh : w.shape? b = some (183, 2)) (hfz : w.frozen? ⟨b, 0, none⟩ = false) :
    Calls Tryz.prog 146 #[.pointer (some ⟨b, 0, none⟩)] w fun e w' => e = .returned (.tuple #[]) ∧ w' = w.setCell ⟨b, 0, none⟩ (.pointer (some ⟨b, 0, none⟩)) := by
  obtain ⟨j, hj, hjs⟩ := Option.map_eq_some_iff.1 (show (Tryz.prog.info? 183).map (·.size) = some 2 by kernel_rfl)
  go_enter Tryz.func146, Tryz.ntmps146
  go_wp2
  rw [Lib.run_to_unsafe w ⟨b, 0, none⟩ Tryz.underlying181 Tryz.underlying234 hj (by rw [hjs]; decide) hsh (Nat.zero_lt_succ 1)]
  simp only [Result.andThen]
  rw [Oper.upon_value]
  go_wp2
  rw [run_callFunc_extern Tryz.func186 (by kernel_rfl) (by kernel_rfl) (by kernel_rfl) (e := Extern.AbiNoEscape.same) (by kernel_rfl)]
  rw [Lib.run_noEscape]
  simp only [Result.andThen]
  rw [Oper.upon_value]
  go_wp2
  rw [Lib.run_from_unsafe w ⟨b, 0, none⟩ Tryz.underlying234 Tryz.underlying181 hj hsh (by kernel_rfl)]
  simp only [Result.andThen]
  rw [Oper.upon_value]
  go_wp2
  go_end0
  exact ⟨rfl, rfl⟩
theorem cc_any (B b : Nat) (bs : List Value) (w : World) (h : Lib.IsBuilder 183 5 B b bs w) :
    Calls Tryz.prog 146 #[.pointer (some ⟨b, 0, none⟩)] w fun e w' => e = .returned (.tuple #[]) ∧ (Lib.BuilderAt 183 5 B b (.pointer (some ⟨b, 0, none⟩)) bs w' ∧ Below B w w') := by
  rcases h with h | h
  · refine (cc_fresh b w h.cell0 h.shape h.frozen0).mono ?_
    rintro e w' ⟨rfl, rfl⟩
    exact ⟨rfl, h.used _, (Below.refl B w).setCell (p := ⟨b, 0, none⟩) h.1 _⟩
  · refine (cc_used b w h.cell0).mono ?_
    rintro e w' ⟨rfl, rfl⟩
    exact ⟨rfl, h, Below.refl B _⟩
set_option maxHeartbeats 2000000 in
set_option maxRecDepth 100000 in
theorem wbyte_any (B b : Nat) (bs : List Value) (c : Int) (w : World) (h : Lib.IsBuilder 183 5 B b bs w) (hlen : bs.length + 1 ≤ 140737488355328) (hBw : B ≤ w.heap.size) :
    Calls Tryz.prog 169 #[.pointer (some ⟨b, 0, none⟩), .int .u8 c] w fun e w' => e = .returned .nilIface ∧ (Lib.BuilderAt 183 5 B b (.pointer (some ⟨b, 0, none⟩)) (bs ++ [.int .u8 c]) w' ∧ Below B w w') := by
  obtain ⟨i0, hi, hz0, hz1, hz2⟩ := info_parts info_u8
  have C := cc_any B b bs w h
  go_enter Tryz.func169, Tryz.ntmps169
  go_wp2_with fail
  refine C.mono ?_
  rintro e w1 ⟨rfl, h1, hb1⟩
  obtain ⟨hB, v, hbk, hown, hne⟩ := h1
  have c0 : w1.cell? ⟨b, 0, none⟩ = some (.pointer (some ⟨b, 0, none⟩)) := by rw [Lib.cell_of_heap hbk]; rfl
  have c1 : w1.cell? ⟨b, 1, none⟩ = some v := by rw [Lib.cell_of_heap hbk]; rfl
  go_wp2_with (at_builtin; refine wpList_append_own _ rfl _ _ 165 rfl B 5 i0 (.int .u8 0) 1 1 Tryz.underlying165 hi hz0 hz1 hz2 rfl (by decide) _ _ _ rfl (hown.alloc _) ⟨w1.heap.size, 0, none⟩ 1 1 [.int .u8 c] rfl rfl ?c1 ?c2 ?c3 ?c4 ?c5 ?_)
  case c1 =>
    intro j u hj
    match j, hj with
    | 0, hj => simp at hj; subst hj; simp [Addr.add]
  case c2 => intro u hu; simp at hu; subst hu; rfl
  case c3 => unfold maxLen; omega
  case c4 => omega
  case c5 => have := hb1.size; simp; omega
  intro v' w2 hown' hgrow _
  have hlt : b < w1.heap.size := lt_of_blk hbk
  have hb2 : w2.heap[b]? = some (.cells #[.pointer (some ⟨b, 0, none⟩), v] 183 (0, 0)) := by
    rw [hgrow.block b (by simp; omega) (fun e => hne e.symm), Lib.alloc_old w1 _ b hlt]
    exact hbk
  have d0 : w2.cell? ⟨b, 0, none⟩ = some (.pointer (some ⟨b, 0, none⟩)) := by rw [Lib.cell_of_heap hb2]; rfl
  have d1 : w2.cell? ⟨b, 1, none⟩ = some v := by rw [Lib.cell_of_heap hb2]; rfl
  have f1 : w2.frozen? ⟨b, 1, none⟩ = false := Lib.frozen_of_heap hb2 1
  obtain ⟨g, cap, rfl⟩ : ∃ g cap, v' = .slice (some ⟨g, 0, none⟩) (bs.length + 1) cap := by
    rcases hown'.2 with ⟨_, h0⟩ | ⟨g, cap, cur, hv, _⟩
    · omega
    · exact ⟨g, cap, hv⟩
  go_wp2
  go_ret
  refine ⟨rfl, ?_, ?_⟩
  · exact Lib.BuilderAt.put (T := 183) (e := 5) hB hb2 (bs' := bs ++ [.int .u8 c]) (by simpa using hown') (by decide)
  · exact ((hb1.alloc (by have := hb1.size; omega) _).grown hgrow (by have := hb1.size; simp; omega) (fun k hk => (hown.lt k hk).1)).setCell (p := ⟨b, 1, none⟩) hB _
theorem cc_any2 (B b : Nat) (bs : List Value) (w : World) (h : Lib.IsBuilder 183 5 B b bs w) :
    Calls Tryz.prog 146 #[.pointer (some ⟨b, 0, none⟩)] w fun e w' => e = .returned (.tuple #[]) ∧ (Lib.BuilderAt 183 5 B b (.pointer (some ⟨b, 0, none⟩)) bs w' ∧ Below B w w' ∧ ∀ k, k ≠ b → w'.heap[k]? = w.heap[k]?) := by
  rcases h with h | h
  · refine (cc_fresh b w h.cell0 h.shape h.frozen0).mono ?_
    rintro e w' ⟨rfl, rfl⟩
    exact ⟨rfl, h.used _, (Below.refl B w).setCell (p := ⟨b, 0, none⟩) h.1 _, fun k hk => Below.heap_setCell _ _ _ _ hk⟩
  · refine (cc_used b w h.cell0).mono ?_
    rintro e w' ⟨rfl, rfl⟩
    exact ⟨rfl, h, Below.refl B _, fun _ _ => rfl⟩
set_option maxHeartbeats 2000000 in
set_option maxRecDepth 100000 in
theorem wrows_any (B b : Nat) (bs : List Value) (A : Option Addr) (n c : Nat) (news : List Value) (w : World) (h : Lib.IsBuilder 183 5 B b bs w) (hA : CellsAt w A news) (hAB : ∀ ad, A = some ad → ad.block ≠ b) (hn : news.length = n) (h1 : ∀ u ∈ news, u.oneCell' = true) (hlen : bs.length + n ≤ 140737488355328) (hBw : B ≤ w.heap.size) :
    Calls Tryz.prog 103 #[.pointer (some ⟨b, 0, none⟩), .slice A n c] w fun e w' => e = .returned (.tuple #[.int .i64 n, .nilIface]) ∧ (Lib.BuilderAt 183 5 B b (.pointer (some ⟨b, 0, none⟩)) (bs ++ news) w' ∧ Below B w w') := by
  obtain ⟨i0, hi, hz0, hz1, hz2⟩ := info_parts info_u8
  have C := cc_any2 B b bs w h
  have HA := Lib.hid hA
  have HAB := Lib.hid hAB
  clear hA hAB
  go_enter Tryz.func103, Tryz.ntmps103
  go_wp2_with fail
  refine C.mono ?_
  rintro e w1 ⟨rfl, hb0, hb1, hsame⟩
  have HA1 : Hid (CellsAt w1 A news) := Lib.hid (fun j u hu => by
    obtain ⟨ad, e, hc⟩ := HA.out j u hu
    have hlt := lt_of_cell hc
    have hbl : (ad.add j).block = ad.block := by unfold Addr.add; split <;> rfl
    refine ⟨ad, e, ?_⟩
    rw [World.cell?_of_block (hsame _ (by rw [hbl]; exact HAB.out ad e))]
    exact hc)
  clear hsame
  obtain ⟨hB, v, hbk, hown, hne⟩ := hb0
  have c0 : w1.cell? ⟨b, 0, none⟩ = some (.pointer (some ⟨b, 0, none⟩)) := by rw [Lib.cell_of_heap hbk]; rfl
  have c1 : w1.cell? ⟨b, 1, none⟩ = some v := by rw [Lib.cell_of_heap hbk]; rfl
  have HM := Lib.hid (show bs.length + n ≤ maxLen ∧ (bs.length + n) * 1 ≤ 140737488355328 by unfold maxLen; omega)
  have HBW := Lib.hid (show B ≤ w1.heap.size by have := hb1.size; omega)
  go_wp2_with (at_builtin; refine wpList_appX rfl _ _ 165 rfl B 5 i0 _ 1 1 Tryz.underlying165 hi hz0 hz1 hz2 rfl (by decide) _ _ _ rfl hown A n c news rfl (by rw [hn, Nat.mul_one]) HA1.out h1 HM.out.1 HM.out.2 HBW.out ?_)
  intro A' c' w2 hown' hgrow hat
  have hlt : b < w1.heap.size := lt_of_blk hbk
  have hb2 : w2.heap[b]? = some (.cells #[.pointer (some ⟨b, 0, none⟩), v] 183 (0, 0)) := by
    rw [hgrow.block b hlt (fun e => hne e.symm)]
    exact hbk
  have d0 : w2.cell? ⟨b, 0, none⟩ = some (.pointer (some ⟨b, 0, none⟩)) := by rw [Lib.cell_of_heap hb2]; rfl
  have d1 : w2.cell? ⟨b, 1, none⟩ = some v := by rw [Lib.cell_of_heap hb2]; rfl
  have f1 : w2.frozen? ⟨b, 1, none⟩ = false := Lib.frozen_of_heap hb2 1
  have HOWN := Lib.hid hown'
  clear hat
  go_wp2
  go_ret2
  refine ⟨rfl, ?_, ?_⟩
  · exact Lib.BuilderAt.put (T := 183) (e := 5) hB hb2 (bs' := bs ++ news) (by rw [List.length_append, hn]; exact HOWN.out) (by decide)
  · exact (hb1.grown hgrow (by have := hb1.size; omega) (fun k hk => (hown.lt k hk).1)).setCell (p := ⟨b, 1, none⟩) hB _
end Go.Proofs.YtnkcfkjeeennmaaGreatDoor
