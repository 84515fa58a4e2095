/- Both pairs of stores and a book, and the law's steps on them. -/
import Derived.Test.YtdkhnkhflbefbaaGreatDoorDoesA
import Derived.Test.YtdkhnkhflbefbaaGreatDoorBookA
namespace Go.Proofs.YtdkhnkhflbefbaaGreatDoor
open Go.RowKit Go.Lib Go.Sort

theorem few_le {x : StD} {n m : Nat} (h : x.Few n) (hm : n ≤ m) : x.Few m := ⟨Nat.le_trans h.texts hm, Nat.le_trans h.nr hm, Nat.le_trans h.nw hm, h.rs⟩
/-- Both pairs of stores and the book behind so many steps. -/
structure TwoI (w0 w : World) (sb mb rb ub nb vb kb m N : Nat) (x y : StD) (tv av rtv tu au ru btv : Value) (L : List HeldD) (C : Nat → List Value) : Prop where
  d1 : Duo w0.heap.size w sb mb rb tv av rtv x
  d2 : Duo w0.heap.size w ub nb vb tu au ru y
  sep : ∀ g, fpD sb mb rb tv av rtv g → ¬ fpD ub nb vb tu au ru g
  bk : BkAt w0.heap.size w kb btv L C N
  nn : N ≤ m
  f1 : x.Few m
  f2 : y.Few m
  ext : Ext w0 w
def TwoD (w0 w : World) (sb mb rb ub nb vb kb m : Nat) : Prop := ∃ N x y tv av rtv tu au ru btv L C, TwoI w0 w sb mb rb ub nb vb kb m N x y tv av rtv tu au ru btv L C
theorem TwoD.ext {w0 w w' : World} {sb mb rb ub nb vb kb m : Nat} (h : TwoD w0 w sb mb rb ub nb vb kb m) (u : Ext w w') : TwoD w0 w' sb mb rb ub nb vb kb m := by
  obtain ⟨N, x, y, tv, av, rtv, tu, au, ru, btv, L, C, h⟩ := h
  exact ⟨N, x, y, tv, av, rtv, tu, au, ru, btv, L, C, h.d1.ext u, h.d2.ext u, h.sep, h.bk.ext u, h.nn, h.f1, h.f2, h.ext.trans u⟩
theorem TwoD.le {w0 w : World} {sb mb rb ub nb vb kb m : Nat} (h : TwoD w0 w sb mb rb ub nb vb kb m) {m' : Nat} (hm : m ≤ m') : TwoD w0 w sb mb rb ub nb vb kb m' := by
  obtain ⟨N, x, y, tv, av, rtv, tu, au, ru, btv, L, C, h⟩ := h
  exact ⟨N, x, y, tv, av, rtv, tu, au, ru, btv, L, C, h.d1, h.d2, h.sep, h.bk, Nat.le_trans h.nn hm, few_le h.f1 hm, few_le h.f2 hm, h.ext⟩
theorem two_does1 {B : Nat} {se : Nat → Addr} {w0 w : World} (G : Genv B se w0) {sb mb rb ub nb vb kb m : Nat} (h : TwoD w0 w sb mb rb ub nb vb kb m) (hm : m ≤ 3000000) (o : OpD) (ho : o.Ok w0) :
    Calls Tryz.prog 11 #[.pointer (some ⟨sb, 0, none⟩), .pointer (some ⟨rb, 0, none⟩), .agg (opCells o).toArray, .pointer (some ⟨kb, 0, none⟩)] w fun e w' => e = .returned (.bool true) ∧ TwoD w0 w' sb mb rb ub nb vb kb (m + 1) := by
  obtain ⟨N, x, y, tv, av, rtv, tu, au, ru, btv, L, C, h⟩ := h
  refine (does_any G h.ext h.d1 h.bk (few_le h.f1 (by omega)) (by have := h.nn; omega) o ho).mono ?_
  rintro e w' ⟨rfl, tv', av', rtv', btv', L', C', N', D, hD, K, hN, u⟩
  have hlo : ∀ g, (fpD sb mb rb tv av rtv g ∨ fpB kb btv L g) → w0.heap.size ≤ g := fun g hg => hg.elim (h.d1.lo g) (h.bk.low g)
  refine ⟨rfl, N', _, y, tv', av', rtv', tu, au, ru, btv', L', C', D, h.d2.upd u (fun g hg hs => ?_), fun g hg h2 => ?_, K, by have := h.nn; omega, few_does h.f1 o.k o.nm o.tx o.zs o.c ho.zs, few_le h.f2 (by omega), ext_then h.ext u hlo⟩
  · exact hs.elim (fun h1 => h.sep g h1 hg) (fun h1 => duo_book h.d2 h.bk hg h1)
  · rcases hD g hg with h1 | h1
    · exact h.sep g h1 h2
    · have := h.d2.lt g h2
      omega
theorem two_does2 {B : Nat} {se : Nat → Addr} {w0 w : World} (G : Genv B se w0) {sb mb rb ub nb vb kb m : Nat} (h : TwoD w0 w sb mb rb ub nb vb kb m) (hm : m ≤ 3000000) (o : OpD) (ho : o.Ok w0) :
    Calls Tryz.prog 11 #[.pointer (some ⟨ub, 0, none⟩), .pointer (some ⟨vb, 0, none⟩), .agg (opCells o).toArray, .pointer (some ⟨kb, 0, none⟩)] w fun e w' => e = .returned (.bool true) ∧ TwoD w0 w' sb mb rb ub nb vb kb (m + 1) := by
  obtain ⟨N, x, y, tv, av, rtv, tu, au, ru, btv, L, C, h⟩ := h
  have h' : TwoD w0 w ub nb vb sb mb rb kb m := ⟨N, y, x, tu, au, ru, tv, av, rtv, btv, L, C, h.d2, h.d1, fun g h1 h2 => h.sep g h2 h1, h.bk, h.nn, h.f2, h.f1, h.ext⟩
  refine (two_does1 G h' hm o ho).mono ?_
  rintro e w' ⟨rfl, N, x, y, tv, av, rtv, tu, au, ru, btv, L, C, h⟩
  exact ⟨rfl, N, y, x, tu, au, ru, tv, av, rtv, btv, L, C, h.d2, h.d1, fun g h1 h2 => h.sep g h2 h1, h.bk, h.nn, h.f2, h.f1, h.ext⟩
/-- An empty Book's block. -/
def EmpB (w : World) (b : Nat) : Prop := w.heap[b]? = some (.cells (bookC ((0 : Nat) : Int) (.slice none 0 0)).toArray 58 (0, 0))
theorem bk_new {w : World} {b B : Nat} (h : EmpB w b) (hB : B ≤ b) : BkAt B w b (.slice none 0 0) [] (fun _ => []) 0 :=
  ⟨h, ⟨World.ownsRow_nil _ _ _ _, fun i h hi => by simp at hi, fun i j h h' g hi => by simp at hi⟩, hB, rfl, fun i h hi => by simp at hi⟩
theorem emp_upd {B : Nat} {w w' : World} {kb : Nat} {btv : Value} {L : List HeldD} {C : Nat → List Value} {N : Nat} (k : BkAt B w kb btv L C N) {S : Nat → Prop} (u : Upd S w w') (hS : ∀ g, S g → fpB kb btv L g) {lb : Nat} (hl : EmpB w lb) (hne : lb ≠ kb) : EmpB w' lb :=
  u.blk hl (fun hs => by
    rcases hS lb hs with e | e | ⟨i, hd, hi, e⟩
    · exact hne e
    · obtain ⟨c, hc⟩ := row_type k.hold.row e
      exact absurd rfl (ty_ne hc hl (by decide))
    · obtain ⟨c, hc⟩ := row_type (k.hold.own i hd hi) e
      exact absurd rfl (ty_ne hc hl (by decide)))
theorem two_stands1 {w0 w : World} {sb mb rb ub nb vb kb m : Nat} (h : TwoD w0 w sb mb rb ub nb vb kb m) (hm : m ≤ 3000000) :
    Calls Tryz.prog 12 #[.pointer (some ⟨sb, 0, none⟩), .pointer (some ⟨rb, 0, none⟩), .pointer (some ⟨kb, 0, none⟩)] w fun e w' => e = .returned (.bool true) ∧ TwoD w0 w' sb mb rb ub nb vb kb (m + 1) ∧ ∀ lb, EmpB w lb → lb ≠ kb → EmpB w' lb := by
  obtain ⟨N, x, y, tv, av, rtv, tu, au, ru, btv, L, C, h⟩ := h
  refine (stands_any h.d1 h.bk h.ext.size (by have := h.nn; omega) (by have := h.f1.texts; omega)).mono ?_
  rintro e w' ⟨rfl, btv', L', C', K, u⟩
  exact ⟨rfl, ⟨N + 1, x, y, tv, av, rtv, tu, au, ru, btv', L', C', h.d1.upd u (fun g h1 h2 => duo_book h.d1 h.bk h1 h2), h.d2.upd u (fun g h1 h2 => duo_book h.d2 h.bk h1 h2), h.sep, K, by have := h.nn; omega, few_le h.f1 (by omega), few_le h.f2 (by omega), ext_then h.ext u h.bk.low⟩, fun lb hl hne => emp_upd h.bk u (fun _ h => h) hl hne⟩
theorem two_stands2 {w0 w : World} {sb mb rb ub nb vb kb m : Nat} (h : TwoD w0 w sb mb rb ub nb vb kb m) (hm : m ≤ 3000000) :
    Calls Tryz.prog 12 #[.pointer (some ⟨ub, 0, none⟩), .pointer (some ⟨vb, 0, none⟩), .pointer (some ⟨kb, 0, none⟩)] w fun e w' => e = .returned (.bool true) ∧ TwoD w0 w' sb mb rb ub nb vb kb (m + 1) ∧ ∀ lb, EmpB w lb → lb ≠ kb → EmpB w' lb := by
  obtain ⟨N, x, y, tv, av, rtv, tu, au, ru, btv, L, C, h⟩ := h
  refine (stands_any h.d2 h.bk h.ext.size (by have := h.nn; omega) (by have := h.f2.texts; omega)).mono ?_
  rintro e w' ⟨rfl, btv', L', C', K, u⟩
  exact ⟨rfl, ⟨N + 1, x, y, tv, av, rtv, tu, au, ru, btv', L', C', h.d1.upd u (fun g h1 h2 => duo_book h.d1 h.bk h1 h2), h.d2.upd u (fun g h1 h2 => duo_book h.d2 h.bk h1 h2), h.sep, K, by have := h.nn; omega, few_le h.f1 (by omega), few_le h.f2 (by omega), ext_then h.ext u h.bk.low⟩, fun lb hl hne => emp_upd h.bk u (fun _ h => h) hl hne⟩
theorem two_apart {w0 w : World} {sb mb rb ub nb vb kb m lb : Nat} (h : TwoD w0 w sb mb rb ub nb vb kb m) (T : Tab10 w0) (hm : m ≤ 3000000) (hl : EmpB w lb) (hne : lb ≠ kb) (hlo : w0.heap.size ≤ lb) :
    Calls Tryz.prog 13 #[.pointer (some ⟨kb, 0, none⟩)] w fun e w' => e = .returned (.bool true) ∧ TwoD w0 w' sb mb rb ub nb vb lb m := by
  obtain ⟨N, x, y, tv, av, rtv, tu, au, ru, btv, L, C, h⟩ := h
  have hN := h.nn
  refine (apartT_any h.bk.blk (fun c h1 h2 h3 => bookC_nil _ _ c h1 h2 h3) rfl h.bk.hold (T.ext h.ext) (tab_lt T) h.ext.size (by have := h.bk.len; omega) (fun i hd hi => ⟨(h.bk.nums i hd hi).1, by have := (h.bk.nums i hd hi).2.1; omega, (h.bk.nums i hd hi).2.2⟩)).mono ?_
  rintro e w' ⟨rfl, u⟩
  have hS : ∀ g, (listBs L g ∨ btv.ownBlock = some g) → fpB kb btv L g := fun g hg => hg.elim (fun h => .inr (.inr h)) (fun h => .inr (.inl h))
  exact ⟨rfl, 0, x, y, tv, av, rtv, tu, au, ru, _, [], _, h.d1.upd u (fun g h1 h2 => duo_book h.d1 h.bk h1 (hS g h2)), h.d2.upd u (fun g h1 h2 => duo_book h.d2 h.bk h1 (hS g h2)), h.sep, bk_new (emp_upd h.bk u hS hl hne) hlo, Nat.zero_le _, h.f1, h.f2, ext_then h.ext u (fun g hg => h.bk.low g (hS g hg))⟩
theorem duo_new {w0 w1 w2 w3 : World} {sb mb rb : Nat} {zs : List Int} {c : Int} {tv rtv : Value} (E0 : Ext w0 w1) (h1 : StAt w2 sb mb tv ⟨[], zs, c, 0, 0, false⟩) (b1 : w1.heap.size ≤ sb) (b2 : w1.heap.size ≤ mb) (u1 : Ext w1 w2) (b3 : ∀ g, tv.ownBlock = some g → w1.heap.size ≤ g)
    (h2 : RStAt w2.heap.size w3 rb (.slice none 0 0) rtv ⟨[], zs, c, 0, 0, false⟩) (b4 : w2.heap.size ≤ rb) (u2 : Ext w2 w3) : Duo w0.heap.size w3 sb mb rb tv (.slice none 0 0) rtv ⟨[], zs, c, 0, 0, false⟩ ∧ ∀ g, fpD sb mb rb tv (.slice none 0 0) rtv g → w1.heap.size ≤ g := by
  have e0 := E0.size
  have e1 := u1.size
  have hl : ∀ g, fpD sb mb rb tv (.slice none 0 0) rtv g → w1.heap.size ≤ g := fun g hg => by
    rcases hg with rfl | rfl | rfl | hg | hg | hg
    · exact b1
    · exact b2
    · omega
    · exact b3 g hg
    · cases hg
    · have := (h2.row.lt g hg).1
      omega
  exact ⟨⟨h1.ext u2, ⟨h2.blk, own_low h2.all (by omega), own_low h2.row (by omega)⟩, fun g hg => Nat.le_trans e0 (hl g hg)⟩, hl⟩
theorem two_new {w0 w3 w4 w6 w7 : World} {sb mb rb ub nb vb kb : Nat} {tv av rtv tu au ru : Value} {x y : StD} (D1 : Duo w0.heap.size w3 sb mb rb tv av rtv x) (E4 : Ext w0 w4) (D2 : Duo w0.heap.size w6 ub nb vb tu au ru y) (hl : ∀ g, fpD ub nb vb tu au ru g → w4.heap.size ≤ g) (u4 : Ext w3 w4) (u6 : Ext w4 w6) (u7 : Ext w6 w7) (hk : EmpB w7 kb) (hkb : w0.heap.size ≤ kb) (f1 : x.Few 0) (f2 : y.Few 0) :
    TwoD w0 w7 sb mb rb ub nb vb kb 0 :=
  ⟨0, x, y, tv, av, rtv, tu, au, ru, _, [], _, D1.ext ((u4.trans u6).trans u7), D2.ext u7, fun g h1 h2 => by have := D1.lt g h1; have := hl g h2; have := u4.size; omega, bk_new hk hkb, Nat.zero_le _, f1, f2, (E4.trans u6).trans u7⟩
end Go.Proofs.YtdkhnkhflbefbaaGreatDoor
