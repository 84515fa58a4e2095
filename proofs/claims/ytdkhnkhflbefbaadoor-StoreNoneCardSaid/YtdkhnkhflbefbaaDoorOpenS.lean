/- Arguments of the store's statements, opened: rows of numbers, trouble, a call. -/
import Derived.Test.YtdkhnkhflbefbaaDoorArgs
import Derived.Test.YtdkhnkhflbefbaaDoorStore
namespace Go.Proofs.YtdkhnkhflbefbaaDoor
open Go.ChangeShapes Go.WideShapes Go.ChangeAt Go.RowKit Go.Lib Go.Deep
section
variable {H : Type} {enc : TypeId × Value → H} {w : World}
theorem cells_op : Tryd.prog.cellsOf 26 = 5 := by kernel_rfl
theorem cells_tro : Tryd.prog.cellsOf 24 = 2 := by kernel_rfl
theorem cells_sli : Tryd.prog.cellsOf 22 = 1 := by kernel_rfl
theorem types_op : Tryd.prog.cellTypes Tryd.prog.depth 26 = some [3, 9, 9, 22, 3] := by kernel_rfl
set_option maxRecDepth 20000 in
theorem ints_open {r : Reach} {b0 fuel : Nat} {c : Value} {y : DataW H × List MemPlace} (hval : Value.okWide Tryd.prog w r b0 22 c) (h : DataW.trod enc Tryd.prog w 0 (fun _ => true) true fuel 22 [c] = some y) :
    ∃ (a : Option Addr) (cap : Nat) (zs : List Int), c = .slice a zs.length cap ∧ zs.length ≤ 9223372036854775807 ∧ RdsAt w a zs := by
  rcases open_slice Tryd.underlying22 h with ⟨h0, h1⟩ | ⟨a', len', cap', m, n, D, Pl, hcs, _, hl, hm, hmm, hx, hi⟩
  · simp at h0
    subst h0
    exact ⟨none, 0, [], rfl, by simp, RdsAt.nil _ _⟩
  · simp at hcs
    subst hcs
    rw [if_pos rfl] at hmm
    subst hmm
    have hsp := spot_none Tryd.underlying22 hval
    rw [cells_int] at hi
    have key : ∀ i, ∃ x : Int, i < len' → w.cells? 0 (a'.add (i * 1)) 1 = some [.int .i64 x] := fun i => by
      by_cases hlt : i < len'
      · obtain ⟨cs, hc, ht⟩ := hi i (by omega)
        obtain ⟨k, h1, _, _⟩ := DataW.trod_int Tryd.underlying3 ht
        exact ⟨k, fun _ => by rw [hc, h1]⟩
      · exact ⟨0, fun e => absurd e hlt⟩
    obtain ⟨f, hfx⟩ := Classical.axiomOfChoice key
    have hlen : ((List.range len').map f).length = len' := by simp
    refine ⟨some a', m, (List.range len').map f, by rw [hlen], by rw [hlen]; have : m ≤ 9223372036854775807 := hm; omega, fun i x hxi => ?_⟩
    obtain ⟨h1, h2⟩ := List.getElem?_eq_some_iff.1 hxi
    rw [hlen] at h1
    simp only [List.getElem_map, List.getElem_range] at h2
    subst h2
    obtain ⟨_, _, hc⟩ := World.cells?_some (hfx i h1)
    obtain ⟨b, o, s⟩ := a'
    simp only at hsp
    subst hsp
    refine ⟨b, o, rfl, ?_⟩
    have := hc 0 (by decide)
    have e : ((⟨b, o, none⟩ : Addr).add (i * 1)).add 0 = ⟨b, o + i, none⟩ := by
      unfold Addr.add
      split <;> split <;> simp_all
    rw [e] at this; exact this
set_option maxRecDepth 20000 in
theorem op_open {r : Reach} {b0 : Nat} {v : Value} {d : DataW H} {p : List MemPlace} (hval : Value.okWide Tryd.prog w r b0 26 v) (h : DataW.Trod enc Tryd.prog w 0 (fun _ => true) true 26 v d p) :
    ∃ (k : Int) (nm tx : ByteArray) (a : Option Addr) (cap : Nat) (zs : List Int) (c : Int), v = .agg #[.int .i64 k, .string nm, .string tx, .slice a zs.length cap, .int .i64 c] ∧ nm.size ≤ maxLen ∧ tx.size ≤ maxLen ∧ zs.length ≤ 9223372036854775807 ∧ RdsAt w a zs := by
  unfold Value.okWide at hval
  simp only [Tryd.underlying26] at hval
  obtain ⟨cs, rfl, hsz, ts, hts, _, hcell⟩ := hval
  rw [types_op] at hts
  obtain rfl := Option.some.inj hts
  obtain ⟨fuel, hf⟩ := h
  rw [cells_op] at hsz
  obtain ⟨l⟩ := cs
  match l, hsz with
  | [c0, c1, c2, c3, c4], _ =>
    obtain ⟨u, hu, hok⟩ := hcell 3 c3 rfl
    obtain rfl : 22 = u := by simpa using hu
    have hok2 : Value.okWide Tryd.prog w r b0 22 c3 := by
      unfold Value.okWide
      simp only [Tryd.underlying22]
      exact hok
    have hf' : DataW.trod enc Tryd.prog w 0 (fun _ => true) true fuel 26 [c0, c1, c2, c3, c4] = some (d, p) := hf
    obtain ⟨xs, m, _, _, hl, hx, hi⟩ := DataW.trod_struct Tryd.underlying26 hf'
    have hx4 : xs.length = 4 := hx
    clear hx
    match xs, hx4 with
    | [y0, y1, y2, y3], _ =>
      have i0 : DataW.trod enc Tryd.prog w 0 (fun _ => true) true m 3 ((([c0, c1, c2, c3, c4] : List Value).drop 0).take (Tryd.prog.cellsOf 3)) = some y0 := hi 0 _ rfl
      rw [cells_int] at i0
      have i1 : DataW.trod enc Tryd.prog w 0 (fun _ => true) true m 9 ((([c0, c1, c2, c3, c4] : List Value).drop 1).take (Tryd.prog.cellsOf 9)) = some y1 := hi 1 _ rfl
      rw [cells_str] at i1
      have i2 : DataW.trod enc Tryd.prog w 0 (fun _ => true) true m 9 ((([c0, c1, c2, c3, c4] : List Value).drop 2).take (Tryd.prog.cellsOf 9)) = some y2 := hi 2 _ rfl
      rw [cells_str] at i2
      have i3 : DataW.trod enc Tryd.prog w 0 (fun _ => true) true m 24 ((([c0, c1, c2, c3, c4] : List Value).drop 3).take (Tryd.prog.cellsOf 24)) = some y3 := hi 3 _ rfl
      rw [cells_tro] at i3
      have i3' : DataW.trod enc Tryd.prog w 0 (fun _ => true) true m 24 [c3, c4] = some y3 := i3
      obtain ⟨ys, m2, _, _, _, hy, hj⟩ := DataW.trod_struct Tryd.underlying24 i3'
      have hy2 : ys.length = 2 := hy
      clear hy
      match ys, hy2 with
      | [z0, z1], _ =>
        have j0 : DataW.trod enc Tryd.prog w 0 (fun _ => true) true m2 22 ((([c3, c4] : List Value).drop 0).take (Tryd.prog.cellsOf 22)) = some z0 := hj 0 _ rfl
        rw [cells_sli] at j0
        have j1 : DataW.trod enc Tryd.prog w 0 (fun _ => true) true m2 3 ((([c3, c4] : List Value).drop 1).take (Tryd.prog.cellsOf 3)) = some z1 := hj 1 _ rfl
        rw [cells_int] at j1
        obtain ⟨k0, a0, _, _⟩ := DataW.trod_int Tryd.underlying3 i0
        obtain ⟨s1, a1, _, w1⟩ := DataW.trod_string Tryd.underlying9 i1
        obtain ⟨s2, a2, _, w2⟩ := DataW.trod_string Tryd.underlying9 i2
        obtain ⟨k4, a4, _, _⟩ := DataW.trod_int Tryd.underlying3 j1
        obtain rfl : c0 = .int .i64 k0 := List.head_eq_of_cons_eq a0
        obtain rfl : c1 = .string s1 := List.head_eq_of_cons_eq a1
        obtain rfl : c2 = .string s2 := List.head_eq_of_cons_eq a2
        obtain rfl : c4 = .int .i64 k4 := List.head_eq_of_cons_eq a4
        obtain ⟨ad, cap, zs, rfl, hm, hat⟩ := ints_open hok2 j0
        exact ⟨k0, s1, s2, ad, cap, zs, k4, rfl, w1, w2, hm, hat⟩
end
end Go.Proofs.YtdkhnkhflbefbaaDoor
