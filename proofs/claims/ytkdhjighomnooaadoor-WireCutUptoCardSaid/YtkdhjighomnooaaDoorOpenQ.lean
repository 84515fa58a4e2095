/- An argument that is a query, opened; its bulk. -/
import Derived.Test.YtkdhjighomnooaaDoorOpenA
import Derived.Test.YtkdhjighomnooaaDoorEncQ
namespace Go.Proofs.YtkdhjighomnooaaDoor
open Go.ChangeShapes Go.WideShapes Go.ChangeAt Go.RowKit Go.Lib Go.Deep
section
variable {H : Type} {enc : TypeId × Value → H} {w : World}
theorem cells_qry : Tryd.prog.cellsOf 45 = 8 := by kernel_rfl
theorem cells_sls : Tryd.prog.cellsOf 43 = 1 := by kernel_rfl
theorem cells_qk : Tryd.prog.cellsOf 41 = 1 := by kernel_rfl
theorem cells_ek : Tryd.prog.cellsOf 42 = 1 := by kernel_rfl
theorem types_qry : Tryd.prog.cellTypes Tryd.prog.depth 45 = some [41, 42, 23, 23, 23, 23, 23, 43] := by kernel_rfl
theorem bulks.bound {l : List (DataW H)} (hk : Rows.uptoSmall H l = true) : Rows.uptoBulkAll l ≤ 1048576 := by simpa [Rows.uptoSmall] using hk
theorem bulk_texts (xs : List ByteArray) : Rows.uptoBulkAll (xs.map fun s => (.lit (.string s.data.toList) : DataW H)) = sizes xs + xs.length := by
  induction xs with
  | nil => simp [Rows.uptoBulkAll, sizes]
  | cons s xs ih =>
    have e : s.data.toList.length = s.size := by rw [Array.length_toList]; rfl
    unfold sizes at ih ⊢
    simp only [List.map_cons, Rows.uptoBulkAll, Rows.uptoBulk, ih, e, List.sum_cons, List.length_cons]; omega
set_option maxRecDepth 20000 in
theorem texts_open {r : Reach} {b0 fuel : Nat} {c : Value} {y : DataW H × List MemPlace} (hval : Value.okWide Tryd.prog w r b0 43 c) (h : DataW.trod enc Tryd.prog w 0 (fun _ => true) true fuel 43 [c] = some y) :
    ∃ (a : Option Addr) (cap : Nat) (xs : List ByteArray), c = .slice a xs.length cap ∧ xs.length ≤ 9223372036854775807 ∧ TextsAt w a xs ∧ (∀ t ∈ xs, t.size ≤ 9223372036854775807) ∧ sizes xs + xs.length ≤ Rows.uptoBulk y.1 := by
  rcases open_slice Tryd.underlying43 h with ⟨h0, h1⟩ | ⟨a', len', cap', m, n, D, Pl, hcs, _, hl, hm, hmm, hx, hi⟩
  · simp at h0
    subst h0
    exact ⟨none, 0, [], rfl, by simp, fun i s hs => by simp at hs, fun t ht => (by cases ht), by simp [sizes]⟩
  · simp at hcs
    subst hcs
    rw [if_pos rfl] at hmm
    subst hmm
    have hsp := spot_none Tryd.underlying43 hval
    rw [cells_str] at hi
    have key : ∀ i, ∃ x : ByteArray, i < len' → x.size ≤ 9223372036854775807 ∧ D i = .lit (.string x.data.toList) ∧ w.cells? 0 (a'.add (i * 1)) 1 = some [.string x] := fun i => by
      by_cases hlt : i < len'
      · obtain ⟨cs, hc, ht⟩ := hi i (by omega)
        obtain ⟨x, rfl, h2, h3⟩ := DataW.trod_string Tryd.underlying9 ht
        exact ⟨x, fun _ => ⟨h3, (Prod.mk.inj h2).1, hc⟩⟩
      · exact ⟨⟨#[]⟩, fun e => absurd e hlt⟩
    obtain ⟨f, hfx⟩ := Classical.axiomOfChoice key
    have hlen : ((List.range len').map f).length = len' := by simp
    have hbulk : Rows.uptoBulkAll ((List.range len').map D) = sizes ((List.range len').map f) + ((List.range len').map f).length := by
      rw [← bulk_texts (H := H), List.map_map]
      congr 1
      exact List.map_congr_left fun i hi2 => (hfx i (List.mem_range.1 hi2)).2.1
    refine ⟨some a', m, (List.range len').map f, by rw [hlen], by rw [hlen]; have : m ≤ 9223372036854775807 := hm; omega, fun i x hxi => ?_, fun t ht => ?_, by rw [hx]; simp only [Rows.uptoBulk]; rw [hbulk]; omega⟩
    · obtain ⟨h1, h2⟩ := List.getElem?_eq_some_iff.1 hxi
      rw [hlen] at h1
      simp only [List.getElem_map, List.getElem_range] at h2
      subst h2
      obtain ⟨e1, _, e2⟩ := hfx i h1
      obtain ⟨_, _, hc⟩ := World.cells?_some e2
      obtain ⟨b, o, s⟩ := a'
      simp only at hsp
      subst hsp
      refine ⟨e1, b, o, rfl, ?_⟩
      have := hc 0 (by omega)
      have e : ((⟨b, o, none⟩ : Addr).add (i * 1)).add 0 = ⟨b, o + i, none⟩ := by
        unfold Addr.add
        split <;> split <;> simp_all
      rw [e] at this
      simpa using this
    · obtain ⟨i, hi2, rfl⟩ := List.mem_map.1 ht
      exact (hfx i (List.mem_range.1 hi2)).1
set_option maxRecDepth 20000 in
theorem qry_open {r : Reach} {b0 : Nat} {v : Value} {d : DataW H} {p : List MemPlace} (hval : Value.okWide Tryd.prog w r b0 45 v) (h : DataW.Trod enc Tryd.prog w 0 (fun _ => true) true 45 v d p) :
    ∃ (x : QryD) (a : Option Addr) (cap : Nat), v = .agg (qCells x (.slice a x.leaves.length cap)).toArray ∧ x.Ok ∧ TextsAt w a x.leaves ∧ sizes x.leaves + x.leaves.length ≤ Rows.uptoBulk d := by
  unfold Value.okWide at hval
  simp only [Tryd.underlying45] at hval
  obtain ⟨cs, rfl, hsz, ts, hts, _, hcell⟩ := hval
  rw [types_qry] at hts
  obtain rfl := Option.some.inj hts
  obtain ⟨fuel, hf⟩ := h
  rw [cells_qry] at hsz
  obtain ⟨l⟩ := cs
  match l, hsz with
  | [c0, c1, c2, c3, c4, c5, c6, c7], _ =>
    obtain ⟨u, hu, hok⟩ := hcell 7 c7 rfl
    obtain rfl : 43 = u := by simpa using hu
    have hok2 : Value.okWide Tryd.prog w r b0 43 c7 := by
      unfold Value.okWide
      simp only [Tryd.underlying43]
      exact hok
    have hf' : DataW.trod enc Tryd.prog w 0 (fun _ => true) true fuel 45 [c0, c1, c2, c3, c4, c5, c6, c7] = some (d, p) := hf
    obtain ⟨xs, m, _, hdp, hl, hx, hi⟩ := DataW.trod_struct Tryd.underlying45 hf'
    have hx4 : xs.length = 8 := hx
    clear hx
    match xs, hx4 with
    | [y0, y1, y2, y3, y4, y5, y6, y7], _ =>
      have i0 : DataW.trod enc Tryd.prog w 0 (fun _ => true) true m 41 ((([c0, c1, c2, c3, c4, c5, c6, c7] : List Value).drop 0).take (Tryd.prog.cellsOf 41)) = some y0 := hi 0 _ rfl
      rw [cells_qk] at i0
      have i1 : DataW.trod enc Tryd.prog w 0 (fun _ => true) true m 42 ((([c0, c1, c2, c3, c4, c5, c6, c7] : List Value).drop 1).take (Tryd.prog.cellsOf 42)) = some y1 := hi 1 _ rfl
      rw [cells_ek] at i1
      have i2 : DataW.trod enc Tryd.prog w 0 (fun _ => true) true m 23 ((([c0, c1, c2, c3, c4, c5, c6, c7] : List Value).drop 2).take (Tryd.prog.cellsOf 23)) = some y2 := hi 2 _ rfl
      have i3 : DataW.trod enc Tryd.prog w 0 (fun _ => true) true m 23 ((([c0, c1, c2, c3, c4, c5, c6, c7] : List Value).drop 3).take (Tryd.prog.cellsOf 23)) = some y3 := hi 3 _ rfl
      have i4 : DataW.trod enc Tryd.prog w 0 (fun _ => true) true m 23 ((([c0, c1, c2, c3, c4, c5, c6, c7] : List Value).drop 4).take (Tryd.prog.cellsOf 23)) = some y4 := hi 4 _ rfl
      have i5 : DataW.trod enc Tryd.prog w 0 (fun _ => true) true m 23 ((([c0, c1, c2, c3, c4, c5, c6, c7] : List Value).drop 5).take (Tryd.prog.cellsOf 23)) = some y5 := hi 5 _ rfl
      have i6 : DataW.trod enc Tryd.prog w 0 (fun _ => true) true m 23 ((([c0, c1, c2, c3, c4, c5, c6, c7] : List Value).drop 6).take (Tryd.prog.cellsOf 23)) = some y6 := hi 6 _ rfl
      rw [cells_u64] at i2 i3 i4 i5 i6
      have i7 : DataW.trod enc Tryd.prog w 0 (fun _ => true) true m 43 ((([c0, c1, c2, c3, c4, c5, c6, c7] : List Value).drop 7).take (Tryd.prog.cellsOf 43)) = some y7 := hi 7 _ rfl
      rw [cells_sls] at i7
      obtain ⟨k0, a0, _, w0⟩ := DataW.trod_int Tryd.underlying41 i0
      obtain ⟨k1, a1, _, w1⟩ := DataW.trod_int Tryd.underlying42 i1
      obtain ⟨k2, a2, _, w2⟩ := DataW.trod_int Tryd.underlying23 i2
      obtain ⟨k3, a3, _, w3⟩ := DataW.trod_int Tryd.underlying23 i3
      obtain ⟨k4, a4, _, w4⟩ := DataW.trod_int Tryd.underlying23 i4
      obtain ⟨k5, a5, _, w5⟩ := DataW.trod_int Tryd.underlying23 i5
      obtain ⟨k6, a6, _, w6⟩ := DataW.trod_int Tryd.underlying23 i6
      obtain rfl : c0 = .int .u8 k0 := List.head_eq_of_cons_eq a0
      obtain rfl : c1 = .int .u8 k1 := List.head_eq_of_cons_eq a1
      obtain rfl : c2 = .int .u64 k2 := List.head_eq_of_cons_eq a2
      obtain rfl : c3 = .int .u64 k3 := List.head_eq_of_cons_eq a3
      obtain rfl : c4 = .int .u64 k4 := List.head_eq_of_cons_eq a4
      obtain rfl : c5 = .int .u64 k5 := List.head_eq_of_cons_eq a5
      obtain rfl : c6 = .int .u64 k6 := List.head_eq_of_cons_eq a6
      obtain ⟨ad, cap, ls, rfl, hm, hat, hle, hbk⟩ := texts_open hok2 i7
      have u0 := bounds_u8 w0
      have u1 := bounds_u8 w1
      have u2 := bounds_u64 w2
      have u3 := bounds_u64 w3
      have u4 := bounds_u64 w4
      have u5 := bounds_u64 w5
      have u6 := bounds_u64 w6
      obtain ⟨n0, rfl⟩ : ∃ n : Nat, k0 = n := ⟨k0.toNat, by omega⟩
      obtain ⟨n1, rfl⟩ : ∃ n : Nat, k1 = n := ⟨k1.toNat, by omega⟩
      obtain ⟨n2, rfl⟩ : ∃ n : Nat, k2 = n := ⟨k2.toNat, by omega⟩
      obtain ⟨n3, rfl⟩ : ∃ n : Nat, k3 = n := ⟨k3.toNat, by omega⟩
      obtain ⟨n4, rfl⟩ : ∃ n : Nat, k4 = n := ⟨k4.toNat, by omega⟩
      obtain ⟨n5, rfl⟩ : ∃ n : Nat, k5 = n := ⟨k5.toNat, by omega⟩
      obtain ⟨n6, rfl⟩ : ∃ n : Nat, k6 = n := ⟨k6.toNat, by omega⟩
      have hd := (Prod.mk.inj hdp).1
      subst hd
      exact ⟨⟨n0, n1, n2, n3, n4, n5, n6, ls⟩, ad, cap, rfl, ⟨by show n0 < _; omega, by show n1 < _; omega, by show n2 < _; omega, by show n3 < _; omega, by show n4 < _; omega, by show n5 < _; omega, by show n6 < _; omega, hm, hle⟩, hat, by simp only [Rows.uptoBulk, Rows.uptoBulkAll, List.map_cons, List.map_nil]; omega⟩
end
end Go.Proofs.YtkdhjighomnooaaDoor
