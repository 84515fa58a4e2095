/- An argument that is an answer, opened. An argument that is a query, opened; its bulk. -/
import Derived.Test.YtljnhelnmnomoaaGreatDoorArgs
import Derived.Test.YtljnhelnmnomoaaGreatDoorWire
import Derived.Test.YtljnhelnmnomoaaGreatDoorEncQ
namespace Go.Proofs.YtljnhelnmnomoaaGreatDoor
open Go.ChangeShapes Go.WideShapes Go.ChangeAt Go.RowKit Go.Lib Go.Deep

section
variable {H : Type} {enc : TypeId × Value → H} {w : World}
theorem cells_ans : Tryz.prog.cellsOf 70 = 4 := by kernel_rfl
theorem cells_slh : Tryz.prog.cellsOf 68 = 1 := by kernel_rfl
theorem cells_code : Tryz.prog.cellsOf 67 = 1 := by kernel_rfl
theorem types_ans : Tryz.prog.cellTypes Tryz.prog.depth 70 = some [67, 24, 68, 9] := by kernel_rfl
set_option maxRecDepth 20000 in
theorem hashes_open {r : Reach} {b0 fuel : Nat} {c : Value} {y : DataW H × List MemPlace} (hval : Value.okWide Tryz.prog w r b0 68 c) (h : DataW.trod enc Tryz.prog w 0 (fun _ => true) true fuel 68 [c] = some y) :
    ∃ (a : Option Addr) (cap : Nat) (xs : List (List UInt8)), c = .slice a xs.length cap ∧ xs.length ≤ 9223372036854775807 ∧ (∀ t ∈ xs, t.length = 32) ∧ HashesAt w a xs := by
  rcases open_slice Tryz.underlying68 h with ⟨h0, h1⟩ | ⟨a', len', cap', m, n, D, Pl, hcs, _, hl, hm, hmm, hx, hi⟩
  · simp at h0
    subst h0
    exact ⟨none, 0, [], rfl, by simp, fun t ht => (by cases ht), HashesAt.nil _ _⟩
  · simp at hcs
    subst hcs
    rw [if_pos rfl] at hmm
    subst hmm
    have hsp := spot_none Tryz.underlying68 hval
    rw [cells_hash] at hi
    have key : ∀ i, ∃ x : List UInt8, i < len' → x.length = 32 ∧ w.cells? 0 (a'.add (i * 32)) 32 = some (x.map u8v) := fun i => by
      by_cases hlt : i < len'
      · obtain ⟨cs, hc, ht⟩ := hi i (by omega)
        obtain ⟨x, h1, rfl, h2⟩ := bytes_of_trod ht
        exact ⟨x, fun _ => ⟨h1, hc⟩⟩
      · exact ⟨[], fun e => absurd e hlt⟩
    obtain ⟨f, hfx⟩ := Classical.axiomOfChoice key
    have hlen : ((List.range len').map f).length = len' := by simp
    refine ⟨some a', m, (List.range len').map f, by rw [hlen], by rw [hlen]; have : m ≤ 9223372036854775807 := hm; omega, fun t ht => ?_, fun i x hxi => ?_⟩
    · obtain ⟨i, hi2, rfl⟩ := List.mem_map.1 ht
      exact (hfx i (List.mem_range.1 hi2)).1
    · obtain ⟨h1, h2⟩ := List.getElem?_eq_some_iff.1 hxi
      rw [hlen] at h1
      simp only [List.getElem_map, List.getElem_range] at h2
      subst h2
      obtain ⟨e1, e2⟩ := hfx i h1
      obtain ⟨_, _, hc⟩ := World.cells?_some e2
      obtain ⟨b, o, s⟩ := a'
      simp only at hsp
      subst hsp
      refine ⟨e1, b, o, rfl, fun j v hv => ?_⟩
      have hj : j < 32 := by
        have := (List.getElem?_eq_some_iff.1 hv).1
        rw [List.length_map, e1] at this; exact this
      have := hc j hj
      rw [hv] at this
      have e : ((⟨b, o, none⟩ : Addr).add (i * 32)).add j = ⟨b, o + (i * 32 + j), none⟩ := by
        unfold Addr.add
        split <;> split <;> simp_all <;> omega
      rw [e] at this; exact this
set_option maxRecDepth 20000 in
theorem ans_open {r : Reach} {b0 : Nat} {v : Value} {d : DataW H} {p : List MemPlace} (hval : Value.okWide Tryz.prog w r b0 70 v) (h : DataW.Trod enc Tryz.prog w 0 (fun _ => true) true 70 v d p) :
    ∃ (x : AnsD) (a : Option Addr) (cap : Nat), v = .agg (ansCells x (.slice a x.hs.length cap)) ∧ x.Ok ∧ HashesAt w a x.hs := by
  unfold Value.okWide at hval
  simp only [Tryz.underlying70] at hval
  obtain ⟨cs, rfl, hsz, ts, hts, _, hcell⟩ := hval
  rw [types_ans] at hts
  obtain rfl := Option.some.inj hts
  obtain ⟨fuel, hf⟩ := h
  rw [cells_ans] at hsz
  obtain ⟨l⟩ := cs
  match l, hsz with
  | [c0, c1, c2, c3], _ =>
    obtain ⟨u, hu, hok⟩ := hcell 2 c2 rfl
    obtain rfl : 68 = u := by simpa using hu
    have hok2 : Value.okWide Tryz.prog w r b0 68 c2 := by
      unfold Value.okWide
      simp only [Tryz.underlying68]
      exact hok
    have hf' : DataW.trod enc Tryz.prog w 0 (fun _ => true) true fuel 70 [c0, c1, c2, c3] = some (d, p) := hf
    obtain ⟨xs, m, _, _, hl, hx, hi⟩ := DataW.trod_struct Tryz.underlying70 hf'
    have hx4 : xs.length = 4 := hx
    clear hx
    match xs, hx4 with
    | [y0, y1, y2, y3], _ =>
      have i0 : DataW.trod enc Tryz.prog w 0 (fun _ => true) true m 67 ((([c0, c1, c2, c3] : List Value).drop 0).take (Tryz.prog.cellsOf 67)) = some y0 := hi 0 _ rfl
      rw [cells_code] at i0
      have i1 : DataW.trod enc Tryz.prog w 0 (fun _ => true) true m 24 ((([c0, c1, c2, c3] : List Value).drop 1).take (Tryz.prog.cellsOf 24)) = some y1 := hi 1 _ rfl
      rw [cells_u64] at i1
      have i2 : DataW.trod enc Tryz.prog w 0 (fun _ => true) true m 68 ((([c0, c1, c2, c3] : List Value).drop 2).take (Tryz.prog.cellsOf 68)) = some y2 := hi 2 _ rfl
      rw [cells_slh] at i2
      have i3 : DataW.trod enc Tryz.prog w 0 (fun _ => true) true m 9 ((([c0, c1, c2, c3] : List Value).drop 3).take (Tryz.prog.cellsOf 9)) = some y3 := hi 3 _ rfl
      rw [cells_str] at i3
      obtain ⟨k0, a0, _, w0⟩ := DataW.trod_int Tryz.underlying67 i0
      obtain ⟨k1, a1, _, w1⟩ := DataW.trod_int Tryz.underlying24 i1
      obtain ⟨s3, a3, _, w3⟩ := DataW.trod_string Tryz.underlying9 i3
      obtain rfl : c0 = .int .u8 k0 := List.head_eq_of_cons_eq a0
      obtain rfl : c1 = .int .u64 k1 := List.head_eq_of_cons_eq a1
      obtain rfl : c3 = .string s3 := List.head_eq_of_cons_eq a3
      obtain ⟨ad, cap, hs, rfl, hm, hlen, hat⟩ := hashes_open hok2 i2
      have u0 := bounds_u8 w0
      have u1 := bounds_u64 w1
      obtain ⟨n0, rfl⟩ : ∃ n : Nat, k0 = n := ⟨k0.toNat, by omega⟩
      obtain ⟨n1, rfl⟩ : ∃ n : Nat, k1 = n := ⟨k1.toNat, by omega⟩
      exact ⟨⟨n0, n1, hs, s3⟩, ad, cap, rfl, ⟨by show n0 < _; omega, by show n1 < _; omega, hlen, hm, w3⟩, hat⟩
end
section
variable {H : Type} {enc : TypeId × Value → H} {w : World}
theorem cells_qry : Tryz.prog.cellsOf 27 = 8 := by kernel_rfl
theorem cells_sls : Tryz.prog.cellsOf 25 = 1 := by kernel_rfl
theorem cells_qk : Tryz.prog.cellsOf 22 = 1 := by kernel_rfl
theorem cells_ek : Tryz.prog.cellsOf 23 = 1 := by kernel_rfl
theorem types_qry : Tryz.prog.cellTypes Tryz.prog.depth 27 = some [22, 23, 24, 24, 24, 24, 24, 25] := by kernel_rfl
theorem bulks.bound {l : List (DataW H)} (hk : Rows.uptoSmall H l = true) : Rows.uptoBulkAll l ≤ 1048576 := by simpa [Rows.uptoSmall] using hk
theorem bulk_texts (xs : List ByteArray) : Rows.uptoBulkAll (xs.map fun s => (.lit (.string s.data.toList) : DataW H)) = sizes xs + xs.length := by
  induction xs with
  | nil => simp [Rows.uptoBulkAll, sizes]
  | cons s xs ih =>
    have e : s.data.toList.length = s.size := by rw [Array.length_toList]; rfl
    unfold sizes at ih ⊢
    simp only [List.map_cons, Rows.uptoBulkAll, Rows.uptoBulk, ih, e, List.sum_cons, List.length_cons]; omega
set_option maxRecDepth 20000 in
theorem texts_open {r : Reach} {b0 fuel : Nat} {c : Value} {y : DataW H × List MemPlace} (hval : Value.okWide Tryz.prog w r b0 25 c) (h : DataW.trod enc Tryz.prog w 0 (fun _ => true) true fuel 25 [c] = some y) :
    ∃ (a : Option Addr) (cap : Nat) (xs : List ByteArray), c = .slice a xs.length cap ∧ xs.length ≤ 9223372036854775807 ∧ TextsAt w a xs ∧ (∀ t ∈ xs, t.size ≤ 9223372036854775807) ∧ sizes xs + xs.length ≤ Rows.uptoBulk y.1 := by
  rcases open_slice Tryz.underlying25 h with ⟨h0, h1⟩ | ⟨a', len', cap', m, n, D, Pl, hcs, _, hl, hm, hmm, hx, hi⟩
  · simp at h0
    subst h0
    exact ⟨none, 0, [], rfl, by simp, fun i s hs => by simp at hs, fun t ht => (by cases ht), by simp [sizes]⟩
  · simp at hcs
    subst hcs
    rw [if_pos rfl] at hmm
    subst hmm
    have hsp := spot_none Tryz.underlying25 hval
    rw [cells_str] at hi
    have key : ∀ i, ∃ x : ByteArray, i < len' → x.size ≤ 9223372036854775807 ∧ D i = .lit (.string x.data.toList) ∧ w.cells? 0 (a'.add (i * 1)) 1 = some [.string x] := fun i => by
      by_cases hlt : i < len'
      · obtain ⟨cs, hc, ht⟩ := hi i (by omega)
        obtain ⟨x, rfl, h2, h3⟩ := DataW.trod_string Tryz.underlying9 ht
        exact ⟨x, fun _ => ⟨h3, (Prod.mk.inj h2).1, hc⟩⟩
      · exact ⟨⟨#[]⟩, fun e => absurd e hlt⟩
    obtain ⟨f, hfx⟩ := Classical.axiomOfChoice key
    have hlen : ((List.range len').map f).length = len' := by simp
    have hbulk : Rows.uptoBulkAll ((List.range len').map D) = sizes ((List.range len').map f) + ((List.range len').map f).length := by
      rw [← bulk_texts (H := H), List.map_map]
      congr 1
      exact List.map_congr_left fun i hi2 => (hfx i (List.mem_range.1 hi2)).2.1
    refine ⟨some a', m, (List.range len').map f, by rw [hlen], by rw [hlen]; have : m ≤ 9223372036854775807 := hm; omega, fun i x hxi => ?_, fun t ht => ?_, by rw [hx]; simp only [Rows.uptoBulk]; rw [hbulk]; omega⟩
    · obtain ⟨h1, h2⟩ := List.getElem?_eq_some_iff.1 hxi
      rw [hlen] at h1
      simp only [List.getElem_map, List.getElem_range] at h2
      subst h2
      obtain ⟨e1, _, e2⟩ := hfx i h1
      obtain ⟨_, _, hc⟩ := World.cells?_some e2
      obtain ⟨b, o, s⟩ := a'
      simp only at hsp
      subst hsp
      refine ⟨e1, b, o, rfl, ?_⟩
      have := hc 0 (by omega)
      have e : ((⟨b, o, none⟩ : Addr).add (i * 1)).add 0 = ⟨b, o + i, none⟩ := by
        unfold Addr.add
        split <;> split <;> simp_all
      rw [e] at this
      simpa using this
    · obtain ⟨i, hi2, rfl⟩ := List.mem_map.1 ht
      exact (hfx i (List.mem_range.1 hi2)).1
set_option maxRecDepth 20000 in
theorem qry_open {r : Reach} {b0 : Nat} {v : Value} {d : DataW H} {p : List MemPlace} (hval : Value.okWide Tryz.prog w r b0 27 v) (h : DataW.Trod enc Tryz.prog w 0 (fun _ => true) true 27 v d p) :
    ∃ (x : QryD) (a : Option Addr) (cap : Nat), v = .agg (qCells x (.slice a x.leaves.length cap)).toArray ∧ x.Ok ∧ TextsAt w a x.leaves ∧ sizes x.leaves + x.leaves.length ≤ Rows.uptoBulk d := by
  unfold Value.okWide at hval
  simp only [Tryz.underlying27] at hval
  obtain ⟨cs, rfl, hsz, ts, hts, _, hcell⟩ := hval
  rw [types_qry] at hts
  obtain rfl := Option.some.inj hts
  obtain ⟨fuel, hf⟩ := h
  rw [cells_qry] at hsz
  obtain ⟨l⟩ := cs
  match l, hsz with
  | [c0, c1, c2, c3, c4, c5, c6, c7], _ =>
    obtain ⟨u, hu, hok⟩ := hcell 7 c7 rfl
    obtain rfl : 25 = u := by simpa using hu
    have hok2 : Value.okWide Tryz.prog w r b0 25 c7 := by
      unfold Value.okWide
      simp only [Tryz.underlying25]
      exact hok
    have hf' : DataW.trod enc Tryz.prog w 0 (fun _ => true) true fuel 27 [c0, c1, c2, c3, c4, c5, c6, c7] = some (d, p) := hf
    obtain ⟨xs, m, _, hdp, hl, hx, hi⟩ := DataW.trod_struct Tryz.underlying27 hf'
    have hx4 : xs.length = 8 := hx
    clear hx
    match xs, hx4 with
    | [y0, y1, y2, y3, y4, y5, y6, y7], _ =>
      have i0 : DataW.trod enc Tryz.prog w 0 (fun _ => true) true m 22 ((([c0, c1, c2, c3, c4, c5, c6, c7] : List Value).drop 0).take (Tryz.prog.cellsOf 22)) = some y0 := hi 0 _ rfl
      rw [cells_qk] at i0
      have i1 : DataW.trod enc Tryz.prog w 0 (fun _ => true) true m 23 ((([c0, c1, c2, c3, c4, c5, c6, c7] : List Value).drop 1).take (Tryz.prog.cellsOf 23)) = some y1 := hi 1 _ rfl
      rw [cells_ek] at i1
      have i2 : DataW.trod enc Tryz.prog w 0 (fun _ => true) true m 24 ((([c0, c1, c2, c3, c4, c5, c6, c7] : List Value).drop 2).take (Tryz.prog.cellsOf 24)) = some y2 := hi 2 _ rfl
      have i3 : DataW.trod enc Tryz.prog w 0 (fun _ => true) true m 24 ((([c0, c1, c2, c3, c4, c5, c6, c7] : List Value).drop 3).take (Tryz.prog.cellsOf 24)) = some y3 := hi 3 _ rfl
      have i4 : DataW.trod enc Tryz.prog w 0 (fun _ => true) true m 24 ((([c0, c1, c2, c3, c4, c5, c6, c7] : List Value).drop 4).take (Tryz.prog.cellsOf 24)) = some y4 := hi 4 _ rfl
      have i5 : DataW.trod enc Tryz.prog w 0 (fun _ => true) true m 24 ((([c0, c1, c2, c3, c4, c5, c6, c7] : List Value).drop 5).take (Tryz.prog.cellsOf 24)) = some y5 := hi 5 _ rfl
      have i6 : DataW.trod enc Tryz.prog w 0 (fun _ => true) true m 24 ((([c0, c1, c2, c3, c4, c5, c6, c7] : List Value).drop 6).take (Tryz.prog.cellsOf 24)) = some y6 := hi 6 _ rfl
      rw [cells_u64] at i2 i3 i4 i5 i6
      have i7 : DataW.trod enc Tryz.prog w 0 (fun _ => true) true m 25 ((([c0, c1, c2, c3, c4, c5, c6, c7] : List Value).drop 7).take (Tryz.prog.cellsOf 25)) = some y7 := hi 7 _ rfl
      rw [cells_sls] at i7
      obtain ⟨k0, a0, _, w0⟩ := DataW.trod_int Tryz.underlying22 i0
      obtain ⟨k1, a1, _, w1⟩ := DataW.trod_int Tryz.underlying23 i1
      obtain ⟨k2, a2, _, w2⟩ := DataW.trod_int Tryz.underlying24 i2
      obtain ⟨k3, a3, _, w3⟩ := DataW.trod_int Tryz.underlying24 i3
      obtain ⟨k4, a4, _, w4⟩ := DataW.trod_int Tryz.underlying24 i4
      obtain ⟨k5, a5, _, w5⟩ := DataW.trod_int Tryz.underlying24 i5
      obtain ⟨k6, a6, _, w6⟩ := DataW.trod_int Tryz.underlying24 i6
      obtain rfl : c0 = .int .u8 k0 := List.head_eq_of_cons_eq a0
      obtain rfl : c1 = .int .u8 k1 := List.head_eq_of_cons_eq a1
      obtain rfl : c2 = .int .u64 k2 := List.head_eq_of_cons_eq a2
      obtain rfl : c3 = .int .u64 k3 := List.head_eq_of_cons_eq a3
      obtain rfl : c4 = .int .u64 k4 := List.head_eq_of_cons_eq a4
      obtain rfl : c5 = .int .u64 k5 := List.head_eq_of_cons_eq a5
      obtain rfl : c6 = .int .u64 k6 := List.head_eq_of_cons_eq a6
      obtain ⟨ad, cap, ls, rfl, hm, hat, hle, hbk⟩ := texts_open hok2 i7
      have u0 := bounds_u8 w0
      have u1 := bounds_u8 w1
      have u2 := bounds_u64 w2
      have u3 := bounds_u64 w3
      have u4 := bounds_u64 w4
      have u5 := bounds_u64 w5
      have u6 := bounds_u64 w6
      obtain ⟨n0, rfl⟩ : ∃ n : Nat, k0 = n := ⟨k0.toNat, by omega⟩
      obtain ⟨n1, rfl⟩ : ∃ n : Nat, k1 = n := ⟨k1.toNat, by omega⟩
      obtain ⟨n2, rfl⟩ : ∃ n : Nat, k2 = n := ⟨k2.toNat, by omega⟩
      obtain ⟨n3, rfl⟩ : ∃ n : Nat, k3 = n := ⟨k3.toNat, by omega⟩
      obtain ⟨n4, rfl⟩ : ∃ n : Nat, k4 = n := ⟨k4.toNat, by omega⟩
      obtain ⟨n5, rfl⟩ : ∃ n : Nat, k5 = n := ⟨k5.toNat, by omega⟩
      obtain ⟨n6, rfl⟩ : ∃ n : Nat, k6 = n := ⟨k6.toNat, by omega⟩
      have hd := (Prod.mk.inj hdp).1
      subst hd
      exact ⟨⟨n0, n1, n2, n3, n4, n5, n6, ls⟩, ad, cap, rfl, ⟨by show n0 < _; omega, by show n1 < _; omega, by show n2 < _; omega, by show n3 < _; omega, by show n4 < _; omega, by show n5 < _; omega, by show n6 < _; omega, hm, hle⟩, hat, by simp only [Rows.uptoBulk, Rows.uptoBulkAll, List.map_cons, List.map_nil]; omega⟩
end
end Go.Proofs.YtljnhelnmnomoaaGreatDoor
