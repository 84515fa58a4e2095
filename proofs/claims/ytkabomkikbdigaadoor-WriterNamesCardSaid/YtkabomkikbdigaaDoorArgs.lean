/- Arguments that are rows of things: opened to their cells; read again in a world behind, where all that was there is as it was. -/
import Derived.Test.YtkabomkikbdigaaDoorLaid
import Derived.Test.YtkabomkikbdigaaDoorThing
import Derived.Deep.Slices
import Derived.ChangeMaps5
namespace Go.Proofs.YtkabomkikbdigaaDoor
open Go.ChangeShapes Go.WideShapes Go.ChangeAt Go.RowKit Go.Lib Go.Deep

theorem mapM_later {α β : Type} {f g : α → Option β} : ∀ (l : List α) (ys : List β), (∀ x ∈ l, ∀ y, f x = some y → g x = some y) → l.mapM f = some ys → l.mapM g = some ys
  | [], ys, _, h => by simpa using h
  | x :: l, ys, hx, h => by
    simp only [List.mapM_cons, Option.bind_eq_bind, Option.bind_eq_some_iff, Option.pure_def, Option.some.injEq] at h ⊢
    obtain ⟨y, hy, zs, hzs, rfl⟩ := h
    exact ⟨y, hx x (by simp) y hy, zs, mapM_later l zs (fun a ha => hx a (by simp [ha])) hzs, rfl⟩
theorem cells_later {w w' : World} (hk : ∀ b, b < w.heap.size → w'.heap[b]? = w.heap[b]?) {base : Nat} {a : Addr} {n : Nat} {cs : List Value} (h : w.cells? base a n = some cs) : w'.cells? base a n = some cs := by
  unfold World.cells? at h ⊢
  split at h
  · rename_i hb
    rw [if_pos hb]
    refine mapM_later _ _ (fun i _ y hy => ?_) h
    have := hk _ (lt_of_cell hy)
    simp only [World.cell?] at hy ⊢
    rw [this]; exact hy
  · cases h
theorem lt_of_cells {w : World} {base : Nat} {a : Addr} {n : Nat} {cs : List Value} (h : w.cells? base a n = some cs) (hn : 0 < n) : a.block < w.heap.size := by
  obtain ⟨_, hl, hc⟩ := World.cells?_some h
  have h0 := hc 0 hn
  rw [List.getElem?_eq_getElem (by omega)] at h0
  have := lt_of_cell h0
  simpa [Addr.add] using this
/-- The types below n are made of types below n, and no slice's element is empty. -/
def okAt (P : Program) (n t : Nat) : Bool :=
  match P.underlying t with
  | some (.slice e) => decide (e < n) && decide (0 < P.cellsOf e)
  | some (.pointer e) | some (.array _ e) | some (.map _ e) => decide (e < n)
  | some (.struct fs) => fs.toList.all fun f => decide (f.type < n)
  | _ => true
section
variable {H : Type} {enc : TypeId × Value → H} {P : Program} {w w' : World} {N : Nat}
/-- A reading in a world is the same in a world behind, where all that was there is as it was. -/
theorem trod_later (hz : ∀ t, t < N → okAt P N t = true) (hk : ∀ b, b < w.heap.size → w'.heap[b]? = w.heap[b]?) :
    ∀ (fuel : Nat) (t : TypeId) (cs : List Value) (x : DataW H × List MemPlace), t < N → DataW.trod enc P w 0 (fun _ => true) true fuel t cs = some x → DataW.trod enc P w' 0 (fun b => decide (b < w.heap.size)) true fuel t cs = some x := by
  intro fuel
  induction fuel with
  | zero => intro t cs x hN h; simp [DataW.trod] at h
  | succ n ih =>
    intro t cs x hN h
    have hZ := hz t hN
    unfold okAt at hZ
    unfold DataW.trod at h ⊢
    split at h
    case h_6 e a ht =>
      rw [ht] at hZ
      simp only [decide_eq_true_eq] at hZ
      simp only [Option.map_eq_some_iff, Option.bind_eq_some_iff] at h ⊢
      obtain ⟨y, ⟨c, hc, hy⟩, rfl⟩ := h
      exact ⟨y, ⟨c, cells_later hk hc, ih _ _ _ hZ hy⟩, rfl⟩
    case h_8 e a len cap ht =>
      rw [ht] at hZ
      simp only [Bool.and_eq_true, decide_eq_true_eq] at hZ
      have key : ∀ i y, ((w.cells? 0 (a.add (i * P.cellsOf e)) (P.cellsOf e)).bind (DataW.trod enc P w 0 (fun _ => true) true n e)) = some y →
          ((w'.cells? 0 (a.add (i * P.cellsOf e)) (P.cellsOf e)).bind (DataW.trod enc P w' 0 (fun b => decide (b < w.heap.size)) true n e)) = some y ∧ a.block < w.heap.size := fun i y hy => by
        simp only [Option.bind_eq_some_iff] at hy ⊢
        obtain ⟨c, hc, hy⟩ := hy
        refine ⟨⟨c, cells_later hk hc, ih _ _ _ hZ.1 hy⟩, ?_⟩
        have := lt_of_cells hc hZ.2
        unfold Addr.add at this
        split at this <;> simpa using this
      dsimp only at h ⊢
      split at h
      · rename_i hc
        rw [if_pos hc]
        simp only [if_true, Option.map_eq_some_iff, Option.bind_eq_some_iff] at h ⊢
        obtain ⟨elems, h1, rest, h2, rfl⟩ := h
        refine ⟨elems, mapM_later _ _ (fun i _ y hy => (key i y hy).1) h1, rest, ?_, rfl⟩
        split
        · exact mapM_later _ _ (fun i _ y hy => (key _ y hy).1) h2
        · rename_i hlt
          by_cases h0 : cap - len = 0
          · rw [h0] at h2; simpa using h2
          · exfalso
            obtain ⟨k, hk0⟩ : ∃ k, cap - len = k + 1 := ⟨cap - len - 1, by omega⟩
            rw [hk0, List.range_succ_eq_map] at h2
            simp only [List.mapM_cons, Option.bind_eq_bind, Option.bind_eq_some_iff] at h2
            obtain ⟨y, hy, _⟩ := h2
            have := (key (len + 0) y (by simpa only [Option.bind_eq_some_iff] using hy)).2
            simp [this] at hlt
      · cases h
    case h_9 fs ht =>
      rw [ht] at hZ
      simp only [List.all_eq_true, decide_eq_true_eq] at hZ
      split at h
      · rename_i hc
        rw [if_pos hc]
        simp only [Option.map_eq_some_iff] at h ⊢
        obtain ⟨ys, h1, rfl⟩ := h
        exact ⟨ys, mapM_later _ _ (fun f hf y hy => ih _ _ _ (hZ f hf) hy) h1, rfl⟩
      · cases h
    case h_10 n e ht =>
      rw [ht] at hZ
      simp only [decide_eq_true_eq] at hZ
      split at h
      · rename_i hc
        rw [if_pos hc]
        simp only [Option.map_eq_some_iff] at h ⊢
        obtain ⟨ys, h1, rfl⟩ := h
        exact ⟨ys, mapM_later _ _ (fun f _ y hy => ih _ _ _ hZ hy) h1, rfl⟩
      · cases h
    case h_14 k e b ht =>
      rw [ht] at hZ
      simp only [decide_eq_true_eq] at hZ
      split at h
      · rename_i es clock hb
        rw [hk b (Array.getElem?_eq_some_iff.1 hb).1, hb]
        dsimp only at h ⊢
        split at h
        · rename_i hc
          rw [if_pos hc]
          simp only [Option.bind_eq_some_iff] at h ⊢
          obtain ⟨entries, h1, h2⟩ := h
          refine ⟨entries, mapM_later _ _ (fun a _ y hy => ?_) h1, h2⟩
          simp only [Option.bind_eq_some_iff] at hy ⊢
          obtain ⟨key, hk1, hy⟩ := hy
          refine ⟨key, hk1, ?_⟩
          split at hy
          · rename_i hf
            rw [if_pos hf]
            simp only [Option.map_eq_some_iff] at hy ⊢
            obtain ⟨z, hz1, rfl⟩ := hy
            exact ⟨z, ih _ _ _ hZ hz1, rfl⟩
          · cases hy
        · cases h
      · cases h
    all_goals exact h
theorem Trod_later (hz : ∀ t, t < N → okAt P N t = true) (hk : ∀ b, b < w.heap.size → w'.heap[b]? = w.heap[b]?) {t : TypeId} {v : Value} {d : DataW H} {p : List MemPlace} (hN : t < N) (h : DataW.Trod enc P w 0 (fun _ => true) true t v d p) :
    DataW.Trod enc P w' 0 (fun b => decide (b < w.heap.size)) true t v d p := by
  obtain ⟨f, h⟩ := h
  exact ⟨f, trod_later hz hk f _ _ _ hN h⟩
theorem TrodAll_later (hz : ∀ t, t < N → okAt P N t = true) (hk : ∀ b, b < w.heap.size → w'.heap[b]? = w.heap[b]?) :
    ∀ {ts : List TypeId} {vs : List Value} {ds : List (DataW H)} {p : List MemPlace}, (∀ t ∈ ts, t < N) → DataW.TrodAll enc P w 0 (fun _ => true) true ts vs ds p → DataW.TrodAll enc P w' 0 (fun b => decide (b < w.heap.size)) true ts vs ds p
  | [], [], [], _, _, h => h
  | _ :: _, _ :: _, _ :: _, _, hN, ⟨p, q, h1, h2, h3⟩ => ⟨p, q, Trod_later hz hk (hN _ (by simp)) h1, TrodAll_later hz hk (fun t ht => hN t (by simp [ht])) h2, h3⟩
end
theorem ok_types : (List.range Tryd.prog.types.size).all (fun t => okAt Tryd.prog Tryd.prog.types.size t) = true := by kernel_rfl
theorem ok_all : ∀ t, t < Tryd.prog.types.size → okAt Tryd.prog Tryd.prog.types.size t = true := fun t ht => List.all_eq_true.1 ok_types t (List.mem_range.2 ht)
/-- A thing as a reading. -/
def thingData {H : Type} (x : ThingD) : DataW H := .agg [.lit (.int .i64 x.who), .lit (.int .i64 x.kind), .lit (.int .u64 x.n), .lit (.int .i64 x.wd), .lit (.string x.t.data.toList), .agg (x.h.map fun b => .lit (.int .u8 b.toNat))]
def byteIn : Value → UInt8
  | .int _ n => UInt8.ofNat n.toNat
  | _ => 0
theorem cells_int : Tryd.prog.cellsOf 3 = 1 := by kernel_rfl
theorem cells_u64 : Tryd.prog.cellsOf 22 = 1 := by kernel_rfl
theorem cells_u8 : Tryd.prog.cellsOf 5 = 1 := by kernel_rfl
theorem cells_hash : Tryd.prog.cellsOf 34 = 32 := by kernel_rfl
theorem cells_thing : Tryd.prog.cellsOf 36 = 37 := by kernel_rfl
section
variable {H : Type} {enc : TypeId × Value → H} {w : World} {sp : Nat → Bool} {hd : Bool} {base : Nat}
/-- A row of bytes, read. -/
theorem bytes_of_trod {n : Nat} {cs : List Value} {y : DataW H × List MemPlace} (h : DataW.trod enc Tryd.prog w base sp hd n 34 cs = some y) :
    ∃ hs : List UInt8, hs.length = 32 ∧ cs = hs.map u8v ∧ y = (.agg (hs.map fun b => .lit (.int .u8 b.toNat)), []) := by
  obtain ⟨xs, m, _, rfl, hl, hx, hi⟩ := DataW.trod_array Tryd.underlying34 h
  rw [cells_hash] at hl
  rw [cells_u8] at hi
  have key : ∀ i (h : i < cs.length) (h2 : i < xs.length), cs[i] = u8v (byteIn cs[i]) ∧ xs[i] = (.lit (.int .u8 (byteIn cs[i]).toNat), []) := fun i h h2 => by
    have h1 := hi i (by omega)
    rw [Nat.mul_one, List.drop_eq_getElem_cons h, List.getElem?_eq_getElem h2] at h1
    obtain ⟨k, e1, e2, e3⟩ := DataW.trod_int Tryd.underlying5 h1
    have e4 : cs[i] = .int .u8 k := by simpa only [List.take_succ_cons, List.take_zero, List.cons.injEq, and_true] using e1
    have e5 := bounds_u8 e3
    have e6 : ((UInt8.ofNat k.toNat).toNat : Int) = k := by rw [UInt8.toNat_ofNat_of_lt' (by show k.toNat < 256; omega)]; omega
    rw [e4, e2]
    have e7 : ((byteIn (.int .u8 k)).toNat : Int) = k := e6
    exact ⟨by unfold u8v; rw [e7], by rw [e7]⟩
  refine ⟨cs.map byteIn, by simpa using hl, ?_, ?_⟩
  · refine List.ext_getElem (by simp) fun i h1 h2 => ?_
    simpa using (key i h1 (by omega)).1
  · refine Prod.ext ?_ ?_
    · show DataW.agg (xs.map (·.1)) = _
      congr 1
      refine List.ext_getElem (by simp [hl, hx]) fun i h1 h2 => ?_
      simp only [List.length_map] at h1
      simp [(key i (by omega) h1).2]
    · show xs.flatMap (·.2) = []
      rw [List.flatMap_eq_nil_iff]
      intro x hx2
      obtain ⟨i, h1, rfl⟩ := List.mem_iff_getElem.1 hx2
      rw [(key i (by omega) h1).2]
theorem thing_of_trod {n : Nat} {cs : List Value} {y : DataW H × List MemPlace} (h : DataW.trod enc Tryd.prog w base sp hd n 36 cs = some y) :
    ∃ x : ThingD, x.Ok ∧ cs = thingCells x ∧ y = (thingData x, []) := by
  obtain ⟨xs, m, _, rfl, hl, hx, hi⟩ := DataW.trod_struct Tryd.underlying36 h
  rw [cells_thing] at hl
  have hx6 : xs.length = 6 := hx
  clear hx
  obtain ⟨c0, cs, rfl⟩ := List.exists_cons_of_length_pos (show 0 < cs.length by omega)
  simp only [List.length_cons] at hl
  obtain ⟨c1, cs, rfl⟩ := List.exists_cons_of_length_pos (show 0 < cs.length by omega)
  simp only [List.length_cons] at hl
  obtain ⟨c2, cs, rfl⟩ := List.exists_cons_of_length_pos (show 0 < cs.length by omega)
  simp only [List.length_cons] at hl
  obtain ⟨c3, cs, rfl⟩ := List.exists_cons_of_length_pos (show 0 < cs.length by omega)
  simp only [List.length_cons] at hl
  obtain ⟨c4, cs, rfl⟩ := List.exists_cons_of_length_pos (show 0 < cs.length by omega)
  simp only [List.length_cons] at hl
  have hl : cs.length = 32 := by omega
  match xs, hx6 with
  | [y0, y1, y2, y3, y4, y5], _ =>
    have i0 : DataW.trod enc Tryd.prog w base sp hd m 3 (((c0 :: c1 :: c2 :: c3 :: c4 :: cs).drop 0).take (Tryd.prog.cellsOf 3)) = some y0 := hi 0 _ rfl
    rw [cells_int] at i0
    have i1 : DataW.trod enc Tryd.prog w base sp hd m 3 (((c0 :: c1 :: c2 :: c3 :: c4 :: cs).drop 1).take (Tryd.prog.cellsOf 3)) = some y1 := hi 1 _ rfl
    rw [cells_int] at i1
    have i2 : DataW.trod enc Tryd.prog w base sp hd m 22 (((c0 :: c1 :: c2 :: c3 :: c4 :: cs).drop 2).take (Tryd.prog.cellsOf 22)) = some y2 := hi 2 _ rfl
    rw [cells_u64] at i2
    have i3 : DataW.trod enc Tryd.prog w base sp hd m 3 (((c0 :: c1 :: c2 :: c3 :: c4 :: cs).drop 3).take (Tryd.prog.cellsOf 3)) = some y3 := hi 3 _ rfl
    rw [cells_int] at i3
    have i4 : DataW.trod enc Tryd.prog w base sp hd m 9 (((c0 :: c1 :: c2 :: c3 :: c4 :: cs).drop 4).take (Tryd.prog.cellsOf 9)) = some y4 := hi 4 _ rfl
    rw [cells_str] at i4
    have i5 : DataW.trod enc Tryd.prog w base sp hd m 34 (((c0 :: c1 :: c2 :: c3 :: c4 :: cs).drop 5).take (Tryd.prog.cellsOf 34)) = some y5 := hi 5 _ rfl
    rw [cells_hash] at i5
    obtain ⟨k0, a0, b0, w0⟩ := DataW.trod_int Tryd.underlying3 i0
    obtain ⟨k1, a1, b1, w1⟩ := DataW.trod_int Tryd.underlying3 i1
    obtain ⟨k2, a2, b2, w2⟩ := DataW.trod_int Tryd.underlying22 i2
    obtain ⟨k3, a3, b3, w3⟩ := DataW.trod_int Tryd.underlying3 i3
    obtain ⟨s4, a4, b4, w4⟩ := DataW.trod_string Tryd.underlying9 i4
    obtain ⟨hs, hh, a5, b5⟩ := bytes_of_trod i5
    obtain rfl : c0 = .int .i64 k0 := List.head_eq_of_cons_eq a0
    obtain rfl : c1 = .int .i64 k1 := List.head_eq_of_cons_eq a1
    obtain rfl : c2 = .int .u64 k2 := List.head_eq_of_cons_eq a2
    obtain rfl : c3 = .int .i64 k3 := List.head_eq_of_cons_eq a3
    obtain rfl : c4 = .string s4 := List.head_eq_of_cons_eq a4
    have a6 : cs.take 32 = hs.map u8v := a5
    rw [List.take_of_length_le (by omega)] at a6
    clear a0 a1 a2 a3 a4 a5
    subst a6 b0 b1 b2 b3 b4 b5
    have u0 := bounds_i64 w0
    have u1 := bounds_i64 w1
    have u2 := bounds_u64 w2
    have u3 := bounds_i64 w3
    obtain ⟨n2, rfl⟩ : ∃ n : Nat, k2 = n := ⟨k2.toNat, by omega⟩
    refine ⟨⟨k0, k1, n2, k3, s4, hs⟩, ⟨u0.1, u0.2, u1.1, u1.2, by show n2 < _; omega, u3.1, u3.2, w4, hh⟩, rfl, ?_⟩
    simp [thingData]
/-- A row of things in memory. -/
def ThingsAt (w : World) (a : Option Addr) (xs : List ThingD) : Prop :=
  ∀ i x, xs[i]? = some x → x.Ok ∧ ∃ b o, a = some ⟨b, o, none⟩ ∧ b < w.heap.size ∧ ∀ j v, (thingCells x)[j]? = some v → w.cell? ⟨b, o + i * 37 + j, none⟩ = some v
theorem ThingsAt.later {w w' : World} {a : Option Addr} {xs : List ThingD} (h : ThingsAt w a xs) (u : Ext w w') : ThingsAt w' a xs := fun i x hx => by
  obtain ⟨h1, b, o, h2, h3, h4⟩ := h i x hx
  exact ⟨h1, b, o, h2, Nat.lt_of_lt_of_le h3 u.size, fun j v hv => by
    have := u.block b h3 id
    have e := h4 j v hv
    simp only [World.cell?] at e ⊢
    rw [this]; exact e⟩
set_option maxRecDepth 20000 in
theorem spot_none {r : Reach} {b0 : Nat} {t e : TypeId} {a : Addr} {len cap : Nat} (ht : Tryd.prog.underlying t = some (.slice e)) (h : Value.okWide Tryd.prog w r b0 t (.slice (some a) len cap)) : a.spot = none := by
  simp only [Value.okWide, ht, Cell.okWide, Cell.ok] at h
  exact h.2.2.2.1
set_option maxRecDepth 20000 in
/-- An argument that is a row of things, opened. -/
theorem things_open {r : Reach} {b0 : Nat} {v : Value} {d : DataW H} {p : List MemPlace} (hval : Value.okWide Tryd.prog w r b0 25 v) (h : DataW.Trod enc Tryd.prog w 0 (fun _ => true) true 25 v d p) :
    ∃ (a : Option Addr) (cap : Nat) (xs : List ThingD), v = .slice a xs.length cap ∧ xs.length ≤ 9223372036854775807 ∧ ThingsAt w a xs ∧ ((xs = [] ∧ d = .nil) ∨ ∃ sp, d = .slice (xs.map thingData) sp) := by
  obtain ⟨a, len, cap, rfl⟩ := okWide_slice Tryd.underlying25 hval
  obtain ⟨fuel, hf⟩ := h
  rcases open_slice Tryd.underlying25 hf with ⟨h0, h1⟩ | ⟨a', len', cap', m, n, D, Pl, hcs, _, hl, hm, hmm, hx, hi⟩
  · simp [Value.cells] at h0
    obtain ⟨rfl, rfl, rfl⟩ := h0
    simp only [Prod.mk.injEq] at h1
    exact ⟨none, 0, [], rfl, by simp, fun i x hx => by simp at hx, .inl ⟨rfl, h1.1⟩⟩
  · simp [Value.cells] at hcs
    obtain ⟨rfl, rfl, rfl⟩ := hcs
    rw [if_pos rfl] at hmm
    subst hmm
    have hsp := spot_none Tryd.underlying25 hval
    rw [cells_thing] at hi
    have key : ∀ i, ∃ x : ThingD, i < len → x.Ok ∧ w.cells? 0 (a'.add (i * 37)) 37 = some (thingCells x) ∧ D i = thingData x := fun i => by
      by_cases hlt : i < len
      · obtain ⟨cs, hc, ht⟩ := hi i (by omega)
        obtain ⟨x, h1, rfl, h2⟩ := thing_of_trod ht
        simp only [Prod.mk.injEq] at h2
        exact ⟨x, fun _ => ⟨h1, hc, h2.1⟩⟩
      · exact ⟨(⟨0, 0, 0, 0, ⟨#[]⟩, []⟩ : ThingD), fun e => absurd e hlt⟩
    obtain ⟨f, hfx⟩ := Classical.axiomOfChoice key
    have hlen : ((List.range len).map f).length = len := by simp
    refine ⟨some a', m, (List.range len).map f, by rw [hlen], by rw [hlen]; have : m ≤ 9223372036854775807 := hm; omega, fun i x hxi => ?_, .inr ⟨(List.range (m - len)).map fun j => D (len + j), ?_⟩⟩
    · obtain ⟨h1, h2⟩ := List.getElem?_eq_some_iff.1 hxi
      rw [hlen] at h1
      simp only [List.getElem_map, List.getElem_range] at h2
      subst h2
      obtain ⟨e1, e2, e3⟩ := hfx i h1
      have hb := lt_of_cells e2 (by omega)
      obtain ⟨_, _, hc⟩ := World.cells?_some e2
      obtain ⟨b, o, s⟩ := a'
      simp only at hsp
      subst hsp
      refine ⟨e1, b, o, rfl, ?_, fun j v hv => ?_⟩
      · unfold Addr.add at hb
        split at hb <;> simpa using hb
      · have hj : j < 37 := by
          have := (List.getElem?_eq_some_iff.1 hv).1
          rw [thingCells_len _ e1.h] at this; exact this
        have := hc j hj
        rw [hv] at this
        have e : ((⟨b, o, none⟩ : Addr).add (i * 37)).add j = ⟨b, o + i * 37 + j, none⟩ := by
          unfold Addr.add
          split <;> split <;> simp_all
        rw [e] at this; exact this
    · simp only [Prod.mk.injEq] at hx
      rw [hx.1, List.map_map]
      congr 1
      refine List.map_congr_left fun i hi2 => ?_
      exact (hfx i (List.mem_range.1 hi2)).2.2
end
end Go.Proofs.YtkabomkikbdigaaDoor
