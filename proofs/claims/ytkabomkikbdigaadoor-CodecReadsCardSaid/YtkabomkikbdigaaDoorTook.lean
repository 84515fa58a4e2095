/- took: what a read of a reader answers. -/
import Derived.Test.YtkabomkikbdigaaDoorLives
namespace Go.Proofs.YtkabomkikbdigaaDoor
open Go.RowKit Go.Lib

def zeroT (k : Int) : ThingD := ⟨0, k, 0, 0, ⟨#[]⟩, zeros32⟩
/-- A read of a reader, by what a thing names. -/
def tookD (x : RdD) (t : ThingD) : ThingD × RdD :=
  if t.kind % 4 = 0 then ({ zeroT 0 with n := (x.fixed t.wd).1, wd := t.wd }, (x.fixed t.wd).2)
  else if t.kind % 4 = 1 then ({ zeroT 1 with n := x.var.1 }, x.var.2)
  else if t.kind % 4 = 2 then ({ zeroT 2 with t := str (x.text t.wd).1 }, (x.text t.wd).2)
  else ({ zeroT 3 with h := x.hash.1 }, x.hash.2)
/-- A Thing that has not been filled. -/
abbrev zero37 : Array Value := #[.int .i64 0, .int .i64 0, .int .u64 0, .int .i64 0, .string ⟨#[]⟩, .int .u8 0, .int .u8 0, .int .u8 0, .int .u8 0, .int .u8 0, .int .u8 0, .int .u8 0, .int .u8 0, .int .u8 0, .int .u8 0, .int .u8 0, .int .u8 0, .int .u8 0, .int .u8 0, .int .u8 0, .int .u8 0, .int .u8 0, .int .u8 0, .int .u8 0, .int .u8 0, .int .u8 0, .int .u8 0, .int .u8 0, .int .u8 0, .int .u8 0, .int .u8 0, .int .u8 0, .int .u8 0, .int .u8 0, .int .u8 0, .int .u8 0, .int .u8 0]
theorem zero37_is : zero37 = (thingCells (zeroT 0)).toArray := rfl
theorem one_cells (x : ThingD) : ∀ u ∈ thingCells x, u.oneCell' = true := by
  intro u hu
  simp only [thingCells, List.mem_cons, List.mem_map] at hu
  rcases hu with rfl | rfl | rfl | rfl | rfl | ⟨q, _, rfl⟩ <;> rfl
theorem over_thing (x y : ThingD) (hx : x.h.length = 32) (hy : y.h.length = 32) : over (thingCells x) 0 (thingCells y) = thingCells y := over_all _ _ (by rw [thingCells_len x hx, thingCells_len y hy])
theorem zeroT_ok (k : Int) : (zeroT k).h.length = 32 := rfl
/-- The world behind took's first lines. -/
abbrev tookW (w : World) (t : ThingD) (k : Int) : World := ((((w.alloc (.cells (thingCells t).toArray 36)).alloc (.cells zero37 36)).alloc (.cells zero37 36)).setRow (w.heap.size + 1 + 1) (thingCells (zeroT k)).toArray)
theorem tookW_is (w : World) (t : ThingD) (k : Int) : tookW w t k = ((w.alloc (.cells (thingCells t).toArray 36)).alloc (.cells zero37 36)).alloc (.cells (thingCells (zeroT k)).toArray 36) := by
  have e := setRow_alloc ((w.alloc (.cells (thingCells t).toArray 36)).alloc (.cells zero37 36)) zero37 (thingCells (zeroT k)).toArray 36 (0, 0)
  simp only [World.size_alloc] at e
  exact e
theorem tookW_ext (w : World) (t : ThingD) (k : Int) : Ext w (tookW w t k) := by
  rw [tookW_is]
  exact (((Upd.refl none' w).alloc _).alloc _).alloc _
theorem tookW_size (w : World) (t : ThingD) (k : Int) : (tookW w t k).heap.size = w.heap.size + 3 := by
  rw [tookW_is]; simp
theorem tookW_blk (w : World) (t : ThingD) (k : Int) : (tookW w t k).heap[w.heap.size]? = some (.cells (thingCells t).toArray 36 (0, 0)) ∧
    (tookW w t k).heap[w.heap.size + 1]? = some (.cells (thingCells (zeroT 0)).toArray 36 (0, 0)) ∧ (tookW w t k).heap[w.heap.size + 2]? = some (.cells (thingCells (zeroT k)).toArray 36 (0, 0)) := by
  rw [tookW_is]
  refine ⟨blk_alloc_lt (blk_alloc_lt (blk_alloc w _) _) _, ?_, ?_⟩
  · have := blk_alloc (w.alloc (.cells (thingCells t).toArray 36)) (.cells zero37 36)
    rw [World.size_alloc] at this
    exact blk_alloc_lt this _
  · have := blk_alloc ((w.alloc (.cells (thingCells t).toArray 36)).alloc (.cells zero37 36)) (.cells (thingCells (zeroT k)).toArray 36)
    rw [World.size_alloc, World.size_alloc] at this
    exact this
/-- What is known behind the read: the reader, the three variables. -/
structure TookAt (B : Nat) (se : Nat → Addr) (w w' : World) (S : Nat → Prop) (b : Nat) (x : RdD) (t y : ThingD) : Prop where
  r : Reader B se w' (plus S (w.heap.size + 3) w'.heap.size) b x
  u : Upd (one b) w w'
  b0 : w'.heap[w.heap.size]? = some (.cells (thingCells t).toArray 36 (0, 0))
  b1 : w'.heap[w.heap.size + 1]? = some (.cells (thingCells (zeroT 0)).toArray 36 (0, 0))
  b2 : w'.heap[w.heap.size + 2]? = some (.cells (thingCells y).toArray 36 (0, 0))
  lt : ∀ k, S k → k < w.heap.size
  low : ∀ k, S k → B ≤ k
  hB : B ≤ w.heap.size
theorem TookAt.of {B b : Nat} {se : Nat → Addr} {w w' : World} {S : Nat → Prop} {x x' : RdD} {t : ThingD} {k : Int} (G : Genv B se w) (h : Reader B se w S b x)
    (hr : Reader B se w' (plus S (tookW w t k).heap.size w'.heap.size) b x') (hu : Upd (one b) (tookW w t k) w') : TookAt B se w w' S b x' t (zeroT k) := by
  have hb := h.lt b h.mem
  obtain ⟨a0, a1, a2⟩ := tookW_blk w t k
  have n0 : ¬ one b w.heap.size := fun e => by have e' : w.heap.size = b := e; omega
  have n1 : ¬ one b (w.heap.size + 1) := fun e => by have e' : w.heap.size + 1 = b := e; omega
  have n2 : ¬ one b (w.heap.size + 2) := fun e => by have e' : w.heap.size + 2 = b := e; omega
  rw [tookW_size] at hr
  exact ⟨hr, (Upd.ext (tookW_ext w t k) _).trans (hu.mono (fun _ _ h => h)), hu.blk a0 n0, hu.blk a1 n1, hu.blk a2 n2, h.lt, h.low, G.size⟩
/-- A field of the answer is written. -/
theorem TookAt.set {B b : Nat} {se : Nat → Addr} {w w' : World} {S : Nat → Prop} {x : RdD} {t y z : ThingD} (h : TookAt B se w w' S b x t y) (i : Nat) (v : Value) (hz : (thingCells y).toArray.setIfInBounds i v = (thingCells z).toArray) :
    TookAt B se w (w'.setCell ⟨w.heap.size + 2, i, none⟩ v) S b x t z := by
  have hlt := h.lt
  have k1 : Upd (one (w.heap.size + 2)) w' (w'.setCell ⟨w.heap.size + 2, i, none⟩ v) := Upd.setCell (p := ⟨w.heap.size + 2, i, none⟩) (Upd.refl (one (w.heap.size + 2)) w') (.inr (show one (w.heap.size + 2) (w.heap.size + 2) from rfl)) v
  have e : (w'.setCell ⟨w.heap.size + 2, i, none⟩ v).heap.size = w'.heap.size := by simp
  refine ⟨?_, h.u.setCell (.inl (by show w.heap.size ≤ w.heap.size + 2; omega)) v, blk_set_ne h.b0 (by show w.heap.size ≠ w.heap.size + 2; omega) v, blk_set_ne h.b1 (by show w.heap.size + 1 ≠ w.heap.size + 2; omega) v, ?_, h.lt, h.low, h.hB⟩
  · rw [e]
    exact h.r.upd k1 (fun g hg e => by
      have e' : g = w.heap.size + 2 := e
      rcases hg with hg | hg
      · have := hlt g hg; omega
      · omega)
  · rw [← hz]; exact blk_set h.b2 i v
/-- .. and its row. -/
theorem TookAt.row {B b : Nat} {se : Nat → Addr} {w w' : World} {S : Nat → Prop} {x : RdD} {t y z : ThingD} (h : TookAt B se w w' S b x t y) (cs : Array Value) (hz : cs = (thingCells z).toArray) :
    TookAt B se w (w'.setRow (w.heap.size + 2) cs) S b x t z := by
  have hlt := h.lt
  have k1 : Upd (one (w.heap.size + 2)) w' (w'.setRow (w.heap.size + 2) cs) := (Upd.refl (one (w.heap.size + 2)) w').setRow (.inr (show one _ _ from rfl)) cs
  have e : (w'.setRow (w.heap.size + 2) cs).heap.size = w'.heap.size := by simp
  refine ⟨?_, h.u.setRow (.inl (by omega)) cs, blk_setRow_ne h.b0 (by omega) cs, blk_setRow_ne h.b1 (by omega) cs, ?_, h.lt, h.low, h.hB⟩
  · rw [e]
    exact h.r.upd k1 (fun g hg e => by
      have e' : g = w.heap.size + 2 := e
      rcases hg with hg | hg
      · have := hlt g hg; omega
      · omega)
  · rw [← hz]; exact blk_setRow h.b2 cs
/-- The answer's own variable is written last. -/
theorem TookAt.out {B b : Nat} {se : Nat → Addr} {w w' : World} {S : Nat → Prop} {x : RdD} {t y : ThingD} (h : TookAt B se w w' S b x t y) (cs : Array Value) :
    Reader B se (w'.setRow (w.heap.size + 1) cs) (plus S w.heap.size (w'.setRow (w.heap.size + 1) cs).heap.size) b x ∧ Upd (one b) w (w'.setRow (w.heap.size + 1) cs) := by
  have hlt := h.lt
  have hs := h.u.size
  have hB := h.hB
  have k1 : Upd (one (w.heap.size + 1)) w' (w'.setRow (w.heap.size + 1) cs) := (Upd.refl (one (w.heap.size + 1)) w').setRow (.inr (show one _ _ from rfl)) cs
  have e : (w'.setRow (w.heap.size + 1) cs).heap.size = w'.heap.size := by simp
  have r1 := h.r.upd k1 (fun g hg e => by
      have e' : g = w.heap.size + 1 := e
      rcases hg with hg | hg
      · have := hlt g hg; omega
      · omega)
  exact ⟨r1.weaken (fun k hk => hk.elim .inl (fun hk => .inr ⟨by omega, by omega⟩)) (fun k hk => ⟨hk.elim (h.low k) (fun hk => by omega), hk.elim (fun hk => by have := hlt k hk; omega) (fun hk => hk.2)⟩), h.u.setRow (.inl (by omega)) cs⟩
end Go.Proofs.YtkabomkikbdigaaDoor
