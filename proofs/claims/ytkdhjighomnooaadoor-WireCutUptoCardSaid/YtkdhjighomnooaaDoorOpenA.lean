/- An argument that is an answer, opened. -/
import Derived.Test.YtkdhjighomnooaaDoorArgs
import Derived.Test.YtkdhjighomnooaaDoorWire
namespace Go.Proofs.YtkdhjighomnooaaDoor
open Go.ChangeShapes Go.WideShapes Go.ChangeAt Go.RowKit Go.Lib Go.Deep
section
variable {H : Type} {enc : TypeId × Value → H} {w : World}
theorem cells_ans : Tryd.prog.cellsOf 26 = 4 := by kernel_rfl
theorem cells_slh : Tryd.prog.cellsOf 24 = 1 := by kernel_rfl
theorem cells_code : Tryd.prog.cellsOf 22 = 1 := by kernel_rfl
theorem types_ans : Tryd.prog.cellTypes Tryd.prog.depth 26 = some [22, 23, 24, 9] := by kernel_rfl
set_option maxRecDepth 20000 in
theorem hashes_open {r : Reach} {b0 fuel : Nat} {c : Value} {y : DataW H × List MemPlace} (hval : Value.okWide Tryd.prog w r b0 24 c) (h : DataW.trod enc Tryd.prog w 0 (fun _ => true) true fuel 24 [c] = some y) :
    ∃ (a : Option Addr) (cap : Nat) (xs : List (List UInt8)), c = .slice a xs.length cap ∧ xs.length ≤ 9223372036854775807 ∧ (∀ t ∈ xs, t.length = 32) ∧ HashesAt w a xs := by
  rcases open_slice Tryd.underlying24 h with ⟨h0, h1⟩ | ⟨a', len', cap', m, n, D, Pl, hcs, _, hl, hm, hmm, hx, hi⟩
  · simp at h0
    subst h0
    exact ⟨none, 0, [], rfl, by simp, fun t ht => (by cases ht), HashesAt.nil _ _⟩
  · simp at hcs
    subst hcs
    rw [if_pos rfl] at hmm
    subst hmm
    have hsp := spot_none Tryd.underlying24 hval
    rw [cells_hash] at hi
    have key : ∀ i, ∃ x : List UInt8, i < len' → x.length = 32 ∧ w.cells? 0 (a'.add (i * 32)) 32 = some (x.map u8v) := fun i => by
      by_cases hlt : i < len'
      · obtain ⟨cs, hc, ht⟩ := hi i (by omega)
        obtain ⟨x, h1, rfl, h2⟩ := bytes_of_trod ht
        exact ⟨x, fun _ => ⟨h1, hc⟩⟩
      · exact ⟨[], fun e => absurd e hlt⟩
    obtain ⟨f, hfx⟩ := Classical.axiomOfChoice key
    have hlen : ((List.range len').map f).length = len' := by simp
    refine ⟨some a', m, (List.range len').map f, by rw [hlen], by rw [hlen]; have : m ≤ 9223372036854775807 := hm; omega, fun t ht => ?_, fun i x hxi => ?_⟩
    · obtain ⟨i, hi2, rfl⟩ := List.mem_map.1 ht
      exact (hfx i (List.mem_range.1 hi2)).1
    · obtain ⟨h1, h2⟩ := List.getElem?_eq_some_iff.1 hxi
      rw [hlen] at h1
      simp only [List.getElem_map, List.getElem_range] at h2
      subst h2
      obtain ⟨e1, e2⟩ := hfx i h1
      obtain ⟨_, _, hc⟩ := World.cells?_some e2
      obtain ⟨b, o, s⟩ := a'
      simp only at hsp
      subst hsp
      refine ⟨e1, b, o, rfl, fun j v hv => ?_⟩
      have hj : j < 32 := by
        have := (List.getElem?_eq_some_iff.1 hv).1
        rw [List.length_map, e1] at this; exact this
      have := hc j hj
      rw [hv] at this
      have e : ((⟨b, o, none⟩ : Addr).add (i * 32)).add j = ⟨b, o + (i * 32 + j), none⟩ := by
        unfold Addr.add
        split <;> split <;> simp_all <;> omega
      rw [e] at this; exact this
set_option maxRecDepth 20000 in
theorem ans_open {r : Reach} {b0 : Nat} {v : Value} {d : DataW H} {p : List MemPlace} (hval : Value.okWide Tryd.prog w r b0 26 v) (h : DataW.Trod enc Tryd.prog w 0 (fun _ => true) true 26 v d p) :
    ∃ (x : AnsD) (a : Option Addr) (cap : Nat), v = .agg (ansCells x (.slice a x.hs.length cap)) ∧ x.Ok ∧ HashesAt w a x.hs := by
  unfold Value.okWide at hval
  simp only [Tryd.underlying26] at hval
  obtain ⟨cs, rfl, hsz, ts, hts, _, hcell⟩ := hval
  rw [types_ans] at hts
  obtain rfl := Option.some.inj hts
  obtain ⟨fuel, hf⟩ := h
  rw [cells_ans] at hsz
  obtain ⟨l⟩ := cs
  match l, hsz with
  | [c0, c1, c2, c3], _ =>
    obtain ⟨u, hu, hok⟩ := hcell 2 c2 rfl
    obtain rfl : 24 = u := by simpa using hu
    have hok2 : Value.okWide Tryd.prog w r b0 24 c2 := by
      unfold Value.okWide
      simp only [Tryd.underlying24]
      exact hok
    have hf' : DataW.trod enc Tryd.prog w 0 (fun _ => true) true fuel 26 [c0, c1, c2, c3] = some (d, p) := hf
    obtain ⟨xs, m, _, _, hl, hx, hi⟩ := DataW.trod_struct Tryd.underlying26 hf'
    have hx4 : xs.length = 4 := hx
    clear hx
    match xs, hx4 with
    | [y0, y1, y2, y3], _ =>
      have i0 : DataW.trod enc Tryd.prog w 0 (fun _ => true) true m 22 ((([c0, c1, c2, c3] : List Value).drop 0).take (Tryd.prog.cellsOf 22)) = some y0 := hi 0 _ rfl
      rw [cells_code] at i0
      have i1 : DataW.trod enc Tryd.prog w 0 (fun _ => true) true m 23 ((([c0, c1, c2, c3] : List Value).drop 1).take (Tryd.prog.cellsOf 23)) = some y1 := hi 1 _ rfl
      rw [cells_u64] at i1
      have i2 : DataW.trod enc Tryd.prog w 0 (fun _ => true) true m 24 ((([c0, c1, c2, c3] : List Value).drop 2).take (Tryd.prog.cellsOf 24)) = some y2 := hi 2 _ rfl
      rw [cells_slh] at i2
      have i3 : DataW.trod enc Tryd.prog w 0 (fun _ => true) true m 9 ((([c0, c1, c2, c3] : List Value).drop 3).take (Tryd.prog.cellsOf 9)) = some y3 := hi 3 _ rfl
      rw [cells_str] at i3
      obtain ⟨k0, a0, _, w0⟩ := DataW.trod_int Tryd.underlying22 i0
      obtain ⟨k1, a1, _, w1⟩ := DataW.trod_int Tryd.underlying23 i1
      obtain ⟨s3, a3, _, w3⟩ := DataW.trod_string Tryd.underlying9 i3
      obtain rfl : c0 = .int .u8 k0 := List.head_eq_of_cons_eq a0
      obtain rfl : c1 = .int .u64 k1 := List.head_eq_of_cons_eq a1
      obtain rfl : c3 = .string s3 := List.head_eq_of_cons_eq a3
      obtain ⟨ad, cap, hs, rfl, hm, hlen, hat⟩ := hashes_open hok2 i2
      have u0 := bounds_u8 w0
      have u1 := bounds_u64 w1
      obtain ⟨n0, rfl⟩ : ∃ n : Nat, k0 = n := ⟨k0.toNat, by omega⟩
      obtain ⟨n1, rfl⟩ : ∃ n : Nat, k1 = n := ⟨k1.toNat, by omega⟩
      exact ⟨⟨n0, n1, hs, s3⟩, ad, cap, rfl, ⟨by show n0 < _; omega, by show n1 < _; omega, hlen, hm, w3⟩, hat⟩
end
end Go.Proofs.YtkdhjighomnooaaDoor
