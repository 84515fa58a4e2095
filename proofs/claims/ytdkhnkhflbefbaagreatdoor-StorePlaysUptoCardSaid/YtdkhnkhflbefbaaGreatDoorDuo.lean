/- A store and the document's, alike: what lies in memory, and how it stays; a Book beside them. -/
import Derived.Test.YtdkhnkhflbefbaaGreatDoorRst6
import Derived.Test.YtdkhnkhflbefbaaGreatDoorTwinI
import Derived.Test.YtdkhnkhflbefbaaGreatDoorBookA
import Derived.Test.YtdkhnkhflbefbaaGreatDoorTxt
namespace Go.Proofs.YtdkhnkhflbefbaaGreatDoor
open Go.RowKit Go.Lib Go.Sort

theorem texts_of_ownA {w : World} {B : Nat} {A : Option Addr} {cap n : Nat} {l : List (List UInt8)} (h : w.ownsRow B 9 1 (.slice A n cap) n (l.map encStr)) (hl : ∀ x ∈ l, x.length ≤ 9223372036854775807) : TextsAt w A (strs l) := by
  rcases h.2 with ⟨hv, h0⟩ | ⟨g, cap', cur, hv, _⟩
  · have hle := h.1
    rw [h0, List.length_map] at hle
    have : l = [] := List.length_eq_zero_iff.1 (by omega)
    subst this
    exact fun i s hs => by cases hs
  · simp only [Value.slice.injEq, true_and] at hv
    obtain ⟨rfl, rfl⟩ := hv
    exact texts_of_own h hl
def fpD (sb mb rb : Nat) (tv av rtv : Value) (g : Nat) : Prop := g = sb ∨ g = mb ∨ g = rb ∨ tv.ownBlock = some g ∨ av.ownBlock = some g ∨ rtv.ownBlock = some g
/-- The store at sb (its map at mb) and the document's at rb hold the same. -/
structure Duo (B : Nat) (w : World) (sb mb rb : Nat) (tv av rtv : Value) (x : StD) : Prop where
  st : StAt w sb mb tv x
  rs : RStAt B w rb av rtv x
  lo : ∀ g, fpD sb mb rb tv av rtv g → B ≤ g
theorem ty_ne {w : World} {b c : Nat} {cs cs' : Array Value} {t t' : TypeId} {f f' : Nat × Nat} (h : w.heap[b]? = some (.cells cs t f)) (h' : w.heap[c]? = some (.cells cs' t' f')) (ht : t ≠ t') : b ≠ c := fun e => by
  rw [e, h'] at h
  simp only [Option.some.injEq, Obj.cells.injEq] at h
  exact ht h.2.1.symm
theorem map_ne {w : World} {b c : Nat} {cs : Array Value} {t : TypeId} {f : Nat × Nat} {es : Array MapEntry} {cl : Nat} (h : w.heap[b]? = some (.cells cs t f)) (h' : w.heap[c]? = some (.map es cl)) : b ≠ c := fun e => by
  rw [e, h'] at h; cases h
theorem Duo.lt {B : Nat} {w : World} {sb mb rb : Nat} {tv av rtv : Value} {x : StD} (h : Duo B w sb mb rb tv av rtv x) : ∀ g, fpD sb mb rb tv av rtv g → g < w.heap.size := fun g hg => by
  rcases hg with rfl | rfl | rfl | hg | hg | hg
  · exact lt_of_blk h.st.blk
  · exact h.st.tex.lt
  · exact lt_of_blk h.rs.blk
  · exact (h.st.row.lt g hg).2
  · exact (h.rs.all.lt g hg).2
  · exact (h.rs.row.lt g hg).2
theorem Duo.upd {B : Nat} {w w' : World} {sb mb rb : Nat} {tv av rtv : Value} {x : StD} {S : Nat → Prop} (h : Duo B w sb mb rb tv av rtv x) (u : Upd S w w') (hS : ∀ g, fpD sb mb rb tv av rtv g → ¬ S g) : Duo B w' sb mb rb tv av rtv x :=
  ⟨h.st.upd u (hS _ (.inl rfl)) (hS _ (.inr (.inl rfl))) (fun g hg => hS g (.inr (.inr (.inr (.inl hg))))),
   h.rs.upd u (hS _ (.inr (.inr (.inl rfl)))) (fun g hg => hS g (.inr (.inr (.inr (.inr (.inl hg)))))) (fun g hg => hS g (.inr (.inr (.inr (.inr (.inr hg)))))), h.lo⟩
theorem Duo.ext {B : Nat} {w w' : World} {sb mb rb : Nat} {tv av rtv : Value} {x : StD} (h : Duo B w sb mb rb tv av rtv x) (u : Ext w w') : Duo B w' sb mb rb tv av rtv x := h.upd u (fun _ _ => id)
/-- What the store's calls turn is none of the document's. -/
theorem Duo.sepS {B : Nat} {w : World} {sb mb rb : Nat} {tv av rtv : Value} {x : StD} (h : Duo B w sb mb rb tv av rtv x) : ¬ two sb mb rb ∧ (∀ g, av.ownBlock = some g → ¬ two sb mb g) ∧ (∀ g, rtv.ownBlock = some g → ¬ two sb mb g) := by
  obtain ⟨es, cl, hm⟩ := h.st.tex.blk
  have row : ∀ {e size n : Nat} {v : Value} {xs : List Value}, w.ownsRow B e size v n xs → e ≠ 69 → ∀ g, v.ownBlock = some g → ¬ two sb mb g := fun hr he g hg e => by
    obtain ⟨c, hc⟩ := row_type hr hg
    rcases e with e | e
    · exact ty_ne hc h.st.blk he e
    · exact map_ne hc hm e
  exact ⟨fun e => e.elim (ty_ne h.rs.blk h.st.blk (by decide)) (map_ne h.rs.blk hm), row h.rs.all (by decide), row h.rs.row (by decide)⟩
/-- What the document's calls turn is none of the store's. -/
theorem Duo.sepR {B : Nat} {w : World} {sb mb rb : Nat} {tv av rtv : Value} {x y : StD} (hs : StAt w sb mb tv x) (hr : RStAt B w rb av rtv y) : (∀ g, g = sb ∨ g = mb ∨ tv.ownBlock = some g → ¬ (g = rb ∨ av.ownBlock = some g)) := fun g hg e => by
  obtain ⟨es, cl, hm⟩ := hs.tex.blk
  rcases e with rfl | e
  · rcases hg with e | e | e
    · exact ty_ne hr.blk hs.blk (by decide) e
    · exact map_ne hr.blk hm e
    · obtain ⟨c, hc⟩ := row_type hs.row e
      exact ty_ne hc hr.blk (by decide) rfl
  · obtain ⟨c, hc⟩ := row_type hr.all e
    rcases hg with e | e | e
    · exact ty_ne hc hs.blk (by decide) e
    · exact map_ne hc hm e
    · obtain ⟨c2, hc2⟩ := row_type hs.row e
      exact ty_ne hc hc2 (by decide) rfl
/-- A Book that texts alone were told. -/
structure BkAt (B : Nat) (w : World) (kb : Nat) (btv : Value) (L : List HeldD) (C : Nat → List Value) (N : Nat) : Prop where
  blk : w.heap[kb]? = some (.cells (bookC (N : Int) btv).toArray 58 (0, 0))
  hold : HoldT B w btv L C
  lo : B ≤ kb
  len : L.length = N
  nums : ∀ (i : Nat) h, L[i]? = some h → h.n ≤ 1000000000 ∧ h.num ≤ N ∧ h.long = .slice none 0 0
def fpB (kb : Nat) (btv : Value) (L : List HeldD) (g : Nat) : Prop := g = kb ∨ btv.ownBlock = some g ∨ listBs L g
theorem BkAt.upd {B : Nat} {w w' : World} {kb : Nat} {btv : Value} {L : List HeldD} {C : Nat → List Value} {N : Nat} {S : Nat → Prop} (h : BkAt B w kb btv L C N) (u : Upd S w w') (hS : ∀ g, fpB kb btv L g → ¬ S g) : BkAt B w' kb btv L C N :=
  ⟨u.blk h.blk (hS _ (.inl rfl)), h.hold.upd u (fun g hg => ⟨fun hl => hS g (.inr (.inr hl)) hg, fun hb => hS g (.inr (.inl hb)) hg⟩), h.lo, h.len, h.nums⟩
theorem BkAt.ext {B : Nat} {w w' : World} {kb : Nat} {btv : Value} {L : List HeldD} {C : Nat → List Value} {N : Nat} (h : BkAt B w kb btv L C N) (u : Ext w w') : BkAt B w' kb btv L C N := h.upd u (fun _ _ => id)
theorem BkAt.low {B : Nat} {w : World} {kb : Nat} {btv : Value} {L : List HeldD} {C : Nat → List Value} {N : Nat} (h : BkAt B w kb btv L C N) : ∀ g, fpB kb btv L g → B ≤ g := fun g hg => by
  rcases hg with rfl | hg | ⟨i, hd, hi, hg⟩
  · exact h.lo
  · exact (h.hold.row.lt g hg).1
  · exact ((h.hold.own i hd hi).lt g hg).1
theorem BkAt.ty {B : Nat} {w : World} {kb : Nat} {btv : Value} {L : List HeldD} {C : Nat → List Value} {N : Nat} (h : BkAt B w kb btv L C N) : ∀ g, fpB kb btv L g → ∃ c t, w.heap[g]? = some (.cells c t (0, 0)) ∧ (t = 58 ∨ t = 111 ∨ t = 9) := fun g hg => by
  rcases hg with rfl | hg | ⟨i, hd, hi, hg⟩
  · exact ⟨_, _, h.blk, .inl rfl⟩
  · obtain ⟨c, hc⟩ := row_type h.hold.row hg
    exact ⟨_, _, hc, .inr (.inl rfl)⟩
  · obtain ⟨c, hc⟩ := row_type (h.hold.own i hd hi) hg
    exact ⟨_, _, hc, .inr (.inr rfl)⟩
theorem Duo.ty {B : Nat} {w : World} {sb mb rb : Nat} {tv av rtv : Value} {x : StD} (h : Duo B w sb mb rb tv av rtv x) : ∀ g, fpD sb mb rb tv av rtv g → (∃ es cl, w.heap[g]? = some (.map es cl)) ∨ ∃ c t, w.heap[g]? = some (.cells c t (0, 0)) ∧ (t = 69 ∨ t = 75 ∨ t = 3 ∨ t = 103) := fun g hg => by
  rcases hg with rfl | rfl | rfl | hg | hg | hg
  · exact .inr ⟨_, _, h.st.blk, .inl rfl⟩
  · exact .inl h.st.tex.blk
  · exact .inr ⟨_, _, h.rs.blk, .inr (.inl rfl)⟩
  · obtain ⟨c, hc⟩ := row_type h.st.row hg
    exact .inr ⟨_, _, hc, .inr (.inr (.inl rfl))⟩
  · obtain ⟨c, hc⟩ := row_type h.rs.all hg
    exact .inr ⟨_, _, hc, .inr (.inr (.inr rfl))⟩
  · obtain ⟨c, hc⟩ := row_type h.rs.row hg
    exact .inr ⟨_, _, hc, .inr (.inr (.inl rfl))⟩
/-- A Book's memory is none of the stores'. -/
theorem duo_book {B B' : Nat} {w : World} {sb mb rb : Nat} {tv av rtv : Value} {x : StD} {kb : Nat} {btv : Value} {L : List HeldD} {C : Nat → List Value} {N : Nat} (h : Duo B w sb mb rb tv av rtv x) (k : BkAt B' w kb btv L C N) {g : Nat} (h1 : fpD sb mb rb tv av rtv g) (h2 : fpB kb btv L g) : False := by
  obtain ⟨c, t, hc, ht⟩ := k.ty g h2
  rcases h.ty g h1 with ⟨es, cl, hm⟩ | ⟨c2, t2, hc2, ht2⟩
  · rw [hc] at hm; cases hm
  · rw [hc] at hc2
    simp only [Option.some.injEq, Obj.cells.injEq] at hc2
    have e := hc2.2.1
    rcases ht with rfl | rfl | rfl <;> rcases ht2 with rfl | rfl | rfl | rfl <;> exact absurd e (by decide)
end Go.Proofs.YtdkhnkhflbefbaaGreatDoor
