/- Arguments of StorePlays, opened: trouble, a row of calls; their bulk. -/
import Derived.Test.YtdkhnkhflbefbaaGreatDoorOpenR
import Derived.Test.YtdkhnkhflbefbaaGreatDoorDoesA
import Derived.Test.YtdkhnkhflbefbaaGreatDoorRows
namespace Go.Proofs.YtdkhnkhflbefbaaGreatDoor
open Go.ChangeShapes Go.WideShapes Go.ChangeAt Go.RowKit Go.Lib Go.Deep
section
variable {H : Type} {enc : TypeId × Value → H} {w : World}
theorem bulk_pos (d : DataW H) : 1 ≤ Rows.uptoBulk d := by
  cases d with
  | lit l => cases l <;> simp [Rows.uptoBulk]
  | _ => simp [Rows.uptoBulk]
theorem bulk_mem : ∀ (l : List (DataW H)) (d : DataW H), d ∈ l → Rows.uptoBulk d ≤ Rows.uptoBulkAll l
  | d' :: l, d, h => by
    simp only [Rows.uptoBulkAll]
    rcases List.mem_cons.1 h with rfl | h
    · omega
    · have := bulk_mem l d h
      omega
theorem bulk_len : ∀ (l : List (DataW H)), l.length ≤ Rows.uptoBulkAll l
  | [] => by simp
  | d :: l => by
    have := bulk_len l
    have := bulk_pos d
    simp only [Rows.uptoBulkAll, List.length_cons]
    omega
theorem bound_all {l : List (DataW H)} (hk : Rows.uptoSmall H l = true) : Rows.uptoBulkAll l ≤ 1048576 := by simpa [Rows.uptoSmall] using hk
set_option maxRecDepth 20000 in
/-- A row, opened, by what one element is; its bulk. -/
theorem rows_trodB {α : Type} (f : α → List Value) (n : Nat) (hn0 : 0 < n) (P : α → DataW H → Prop) (x0 : α) {t e : TypeId} (hu : Tryz.prog.underlying t = some (.slice e)) (hn : Tryz.prog.cellsOf e = n)
    (hel : ∀ (fuel : Nat) (cs : List Value) (y : DataW H × List MemPlace), DataW.trod enc Tryz.prog w 0 (fun _ => true) true fuel e cs = some y → ∃ x, cs = f x ∧ P x y.1)
    {fuel : Nat} {c : Value} {y : DataW H × List MemPlace} (h : DataW.trod enc Tryz.prog w 0 (fun _ => true) true fuel t [c] = some y) :
    ∃ (a : Option Addr) (cap : Nat) (xs : List α), c = .slice a xs.length cap ∧ xs.length ≤ 9223372036854775807 ∧ RowsAt f n w a xs ∧ xs.length ≤ Rows.uptoBulk y.1 ∧ ∀ x ∈ xs, ∃ d, P x d ∧ Rows.uptoBulk d ≤ Rows.uptoBulk y.1 := by
  rcases open_slice hu h with ⟨h0, h1⟩ | ⟨a', len', cap', m, _, D, Pl, hcs, _, hl, hm, hmm, hx, hi⟩
  · simp at h0
    subst h0
    exact ⟨none, 0, [], rfl, by simp, RowsAt.nil _ _ _ _, by simp, fun x hx => (by cases hx)⟩
  · simp at hcs
    subst hcs
    rw [if_pos rfl] at hmm
    subst hmm
    rw [hn] at hi
    have key : ∀ i, ∃ x : α, i < len' → P x (D i) ∧ w.cells? 0 (a'.add (i * n)) n = some (f x) := fun i => by
      by_cases hlt : i < len'
      · obtain ⟨cs, hc, ht⟩ := hi i (by omega)
        obtain ⟨x, rfl, h2⟩ := hel _ _ _ ht
        exact ⟨x, fun _ => ⟨h2, hc⟩⟩
      · exact ⟨x0, fun e => absurd e hlt⟩
    obtain ⟨g, hgx⟩ := Classical.axiomOfChoice key
    have hlen : ((List.range len').map g).length = len' := by simp
    have hB : ∀ i, i < len' → Rows.uptoBulk (D i) ≤ Rows.uptoBulk y.1 := fun i hi2 => by
      rw [hx]
      simp only [Rows.uptoBulk]
      have := bulk_mem ((List.range len').map D) (D i) (List.mem_map.2 ⟨i, List.mem_range.2 hi2, rfl⟩)
      omega
    refine ⟨some a', m, (List.range len').map g, by rw [hlen], by rw [hlen]; have : m ≤ 9223372036854775807 := hm; omega, fun i x hxi => ?_, ?_, fun x hx2 => ?_⟩
    · obtain ⟨h1, h2⟩ := List.getElem?_eq_some_iff.1 hxi
      rw [hlen] at h1
      simp only [List.getElem_map, List.getElem_range] at h2
      subst h2
      obtain ⟨e1, e2⟩ := hgx i h1
      obtain ⟨_, hl2, hc⟩ := World.cells?_some e2
      have hsn : a'.spot = none := by
        obtain ⟨_, z2⟩ := hgx 0 (by omega)
        obtain ⟨_, hz, hzc⟩ := World.cells?_some z2
        have c0 := hzc 0 hn0
        rw [List.getElem?_eq_getElem (by omega)] at c0
        have hsp := World.cell?_spot c0
        simpa [Addr.add] using hsp
      obtain ⟨b, o, s⟩ := a'
      simp only at hsn
      subst hsn
      refine ⟨b, o, rfl, fun j v hv => ?_⟩
      have hj : j < n := by
        have := (List.getElem?_eq_some_iff.1 hv).1
        rw [hl2] at this; exact this
      have := hc j hj
      rw [hv] at this
      have e : ((⟨b, o, none⟩ : Addr).add (i * n)).add j = ⟨b, o + i * n + j, none⟩ := by
        unfold Addr.add
        split <;> split <;> simp_all
      rw [e] at this; exact this
    · rw [hx, hlen]
      simp only [Rows.uptoBulk]
      have := bulk_len ((List.range len').map D)
      simp at this
      omega
    · obtain ⟨i, hi2, rfl⟩ := List.mem_map.1 hx2
      exact ⟨D i, (hgx i (List.mem_range.1 hi2)).1, hB i (List.mem_range.1 hi2)⟩
theorem cells_op : Tryz.prog.cellsOf 61 = 5 := by kernel_rfl
theorem cells_tro : Tryz.prog.cellsOf 24 = 2 := by kernel_rfl
theorem cells_sli : Tryz.prog.cellsOf 22 = 1 := by kernel_rfl
set_option maxRecDepth 20000 in
theorem ints_trodB {fuel : Nat} {c : Value} {y : DataW H × List MemPlace} (h : DataW.trod enc Tryz.prog w 0 (fun _ => true) true fuel 22 [c] = some y) :
    ∃ (a : Option Addr) (cap : Nat) (zs : List Int), c = .slice a zs.length cap ∧ RdsAt w a zs ∧ zs.length ≤ Rows.uptoBulk y.1 := by
  obtain ⟨a, cap, xs, e, _, hr, hb, _⟩ := rows_trodB (fun x : Int => [.int .i64 x]) 1 (by decide) (fun _ _ => True) 0 Tryz.underlying22 cells_int (fun fuel cs y ht => by
    obtain ⟨k, h1, _, _⟩ := DataW.trod_int Tryz.underlying3 ht
    exact ⟨k, h1, trivial⟩) h
  exact ⟨a, cap, xs, e, fun i x hx => by
    obtain ⟨b, o, ea, hc⟩ := hr i x hx
    have := hc 0 _ rfl
    exact ⟨b, o, ea, by simpa using this⟩, hb⟩
set_option maxRecDepth 20000 in
theorem tro_trodB {fuel : Nat} {cs : List Value} {y : DataW H × List MemPlace} (h : DataW.trod enc Tryz.prog w 0 (fun _ => true) true fuel 24 cs = some y) :
    ∃ (a : Option Addr) (cap : Nat) (zs : List Int) (c : Int), cs = [.slice a zs.length cap, .int .i64 c] ∧ RdsAt w a zs ∧ zs.length ≤ Rows.uptoBulk y.1 := by
  obtain ⟨y0, y1, m, hy, hl, j0, j1⟩ := trod_struct2 Tryz.underlying24 h
  rw [cells_tro] at hl
  match cs, hl with
  | [c0, c1], _ =>
    have i0 : DataW.trod enc Tryz.prog w 0 (fun _ => true) true m 22 ((([c0, c1] : List Value).drop 0).take (Tryz.prog.cellsOf 22)) = some y0 := j0
    rw [cells_sli] at i0
    have i1 : DataW.trod enc Tryz.prog w 0 (fun _ => true) true m 3 ((([c0, c1] : List Value).drop 1).take (Tryz.prog.cellsOf 3)) = some y1 := j1
    rw [cells_int] at i1
    obtain ⟨k, a1, _, _⟩ := DataW.trod_int Tryz.underlying3 i1
    obtain rfl : c1 = .int .i64 k := List.head_eq_of_cons_eq a1
    obtain ⟨a, cap, zs, rfl, hr, hb⟩ := ints_trodB i0
    refine ⟨a, cap, zs, k, rfl, hr, ?_⟩
    rw [hy]
    simp only [Rows.uptoBulk, Rows.uptoBulkAll]
    omega
set_option maxRecDepth 20000 in
theorem tro_arg {r : Reach} {b0 : Nat} {v : Value} {d : DataW H} {p : List MemPlace} (hval : Value.okWide Tryz.prog w r b0 24 v) (h : DataW.Trod enc Tryz.prog w 0 (fun _ => true) true 24 v d p) :
    ∃ (a : Option Addr) (cap : Nat) (zs : List Int) (c : Int), v = .agg #[.slice a zs.length cap, .int .i64 c] ∧ RdsAt w a zs ∧ zs.length ≤ Rows.uptoBulk d := by
  unfold Value.okWide at hval
  simp only [Tryz.underlying24] at hval
  obtain ⟨cs, rfl, _⟩ := hval
  obtain ⟨fuel, hf⟩ := h
  have hf' : DataW.trod enc Tryz.prog w 0 (fun _ => true) true fuel 24 cs.toList = some (d, p) := hf
  obtain ⟨a, cap, zs, c, e, hr, hb⟩ := tro_trodB hf'
  exact ⟨a, cap, zs, c, by rw [← e], hr, hb⟩
def opX : OpD := ⟨0, ⟨#[]⟩, ⟨#[]⟩, none, [], 0, 0⟩
set_option maxRecDepth 20000 in
theorem op_trodB {fuel : Nat} {cs : List Value} {y : DataW H × List MemPlace} (h : DataW.trod enc Tryz.prog w 0 (fun _ => true) true fuel 61 cs = some y) :
    ∃ o : OpD, cs = opCells o ∧ (o.nm.size ≤ maxLen ∧ o.tx.size ≤ maxLen ∧ RdsAt w o.a o.zs ∧ o.zs.length ≤ Rows.uptoBulk y.1) := by
  obtain ⟨ys, m, _, hy, hl, hx, hi⟩ := DataW.trod_struct Tryz.underlying61 h
  rw [cells_op] at hl
  have hx4 : ys.length = 4 := hx
  clear hx
  match cs, hl, ys, hx4 with
  | [c0, c1, c2, c3, c4], _, [y0, y1, y2, y3], _ =>
    have i0 : DataW.trod enc Tryz.prog w 0 (fun _ => true) true m 3 ((([c0, c1, c2, c3, c4] : List Value).drop 0).take (Tryz.prog.cellsOf 3)) = some y0 := hi 0 _ rfl
    rw [cells_int] at i0
    have i1 : DataW.trod enc Tryz.prog w 0 (fun _ => true) true m 9 ((([c0, c1, c2, c3, c4] : List Value).drop 1).take (Tryz.prog.cellsOf 9)) = some y1 := hi 1 _ rfl
    rw [cells_str] at i1
    have i2 : DataW.trod enc Tryz.prog w 0 (fun _ => true) true m 9 ((([c0, c1, c2, c3, c4] : List Value).drop 2).take (Tryz.prog.cellsOf 9)) = some y2 := hi 2 _ rfl
    rw [cells_str] at i2
    have i3 : DataW.trod enc Tryz.prog w 0 (fun _ => true) true m 24 ((([c0, c1, c2, c3, c4] : List Value).drop 3).take (Tryz.prog.cellsOf 24)) = some y3 := hi 3 _ rfl
    rw [cells_tro] at i3
    have i3' : DataW.trod enc Tryz.prog w 0 (fun _ => true) true m 24 [c3, c4] = some y3 := i3
    obtain ⟨k0, a0, _, _⟩ := DataW.trod_int Tryz.underlying3 i0
    obtain ⟨s1, a1, _, w1⟩ := DataW.trod_string Tryz.underlying9 i1
    obtain ⟨s2, a2, _, w2⟩ := DataW.trod_string Tryz.underlying9 i2
    obtain ⟨a, cap, zs, c, e3, hr, hb⟩ := tro_trodB i3'
    obtain rfl : c0 = .int .i64 k0 := List.head_eq_of_cons_eq a0
    obtain rfl : c1 = .string s1 := List.head_eq_of_cons_eq a1
    obtain rfl : c2 = .string s2 := List.head_eq_of_cons_eq a2
    obtain ⟨rfl, rfl⟩ : c3 = .slice a zs.length cap ∧ c4 = .int .i64 c := by simpa using e3
    refine ⟨⟨k0, s1, s2, a, zs, cap, c⟩, rfl, w1, w2, hr, ?_⟩
    rw [hy]
    simp only [Rows.uptoBulk, Rows.uptoBulkAll, List.map_cons, List.map_nil]
    omega
set_option maxRecDepth 20000 in
theorem ops_arg {r : Reach} {b0 : Nat} {v : Value} {d : DataW H} {p : List MemPlace} (hval : Value.okWide Tryz.prog w r b0 25 v) (h : DataW.Trod enc Tryz.prog w 0 (fun _ => true) true 25 v d p) (hd : Rows.uptoBulk d ≤ 1048576) :
    ∃ (a : Option Addr) (cap : Nat) (os : List OpD), v = .slice a os.length cap ∧ RowsAt opCells 5 w a os ∧ os.length ≤ Rows.uptoBulk d ∧ ∀ o ∈ os, o.Ok w := by
  obtain ⟨a0, len, cap0, rfl⟩ := okWide_slice Tryz.underlying25 hval
  obtain ⟨fuel, hf⟩ := h
  have hf' : DataW.trod enc Tryz.prog w 0 (fun _ => true) true fuel 25 [.slice a0 len cap0] = some (d, p) := hf
  obtain ⟨a, cap, xs, e, _, hr, hb, hx⟩ := rows_trodB opCells 5 (by decide) (fun o y => o.nm.size ≤ maxLen ∧ o.tx.size ≤ maxLen ∧ RdsAt w o.a o.zs ∧ o.zs.length ≤ Rows.uptoBulk y) opX Tryz.underlying25 cells_op (fun fuel cs y ht => op_trodB ht) hf'
  refine ⟨a, cap, xs, e, hr, hb, fun o ho => ?_⟩
  obtain ⟨dx, ⟨h1, h2, h3, h4⟩, h5⟩ := hx o ho
  exact ⟨h1, h2, by have : Rows.uptoBulk (d, p).1 = Rows.uptoBulk d := rfl; omega, h3⟩
end
end Go.Proofs.YtdkhnkhflbefbaaGreatDoor
