/- Arguments of the store's statements, opened: rows of numbers, of texts, of writes. -/
import Derived.Test.YtdkhnkhflbefbaaDoorOpenR
import Derived.Test.YtdkhnkhflbefbaaDoorLies
namespace Go.Proofs.YtdkhnkhflbefbaaDoor
open Go.ChangeShapes Go.WideShapes Go.ChangeAt Go.RowKit Go.Lib Go.Deep
section
variable {H : Type} {enc : TypeId × Value → H} {w : World}
set_option maxRecDepth 20000 in
theorem ints_arg {r : Reach} {b0 : Nat} {v : Value} {d : DataW H} {p : List MemPlace} (hval : Value.okWide Tryd.prog w r b0 22 v) (h : DataW.Trod enc Tryd.prog w 0 (fun _ => true) true 22 v d p) :
    ∃ (a : Option Addr) (cap : Nat) (zs : List Int), v = .slice a zs.length cap ∧ zs.length ≤ 9223372036854775807 ∧ (∀ x ∈ zs, -9223372036854775808 ≤ x ∧ x ≤ 9223372036854775807) ∧ RdsAt w a zs := by
  obtain ⟨a, cap, xs, e, hl, hp, hr⟩ := rows_open (fun x : Int => [.int .i64 x]) 1 (fun x => -9223372036854775808 ≤ x ∧ x ≤ 9223372036854775807) 0 Tryd.underlying22 cells_int (fun fuel cs y ht => by
    obtain ⟨k, h1, _, h2⟩ := DataW.trod_int Tryd.underlying3 ht
    exact ⟨k, h1, bounds_i64 h2⟩) hval h
  exact ⟨a, cap, xs, e, hl, hp, fun i x hx => by
    obtain ⟨b, o, ea, hc⟩ := hr i x hx
    have := hc 0 _ rfl
    exact ⟨b, o, ea, by simpa using this⟩⟩
set_option maxRecDepth 20000 in
theorem strs_arg {r : Reach} {b0 : Nat} {v : Value} {d : DataW H} {p : List MemPlace} (hval : Value.okWide Tryd.prog w r b0 41 v) (h : DataW.Trod enc Tryd.prog w 0 (fun _ => true) true 41 v d p) :
    ∃ (a : Option Addr) (cap : Nat) (ss : List ByteArray), v = .slice a ss.length cap ∧ ss.length ≤ 9223372036854775807 ∧ TextsAt w a ss := by
  obtain ⟨a, cap, xs, e, hl, hp, hr⟩ := rows_open (fun x : ByteArray => [.string x]) 1 (fun x => x.size ≤ maxLen) ⟨#[]⟩ Tryd.underlying41 cells_str (fun fuel cs y ht => by
    obtain ⟨k, h1, _, h2⟩ := DataW.trod_string Tryd.underlying9 ht
    exact ⟨k, h1, h2⟩) hval h
  exact ⟨a, cap, xs, e, hl, fun i x hx => by
    obtain ⟨b, o, ea, hc⟩ := hr i x hx
    have := hc 0 _ rfl
    exact ⟨hp x (List.mem_of_getElem? hx), b, o, ea, by simpa using this⟩⟩
theorem cells_wr : Tryd.prog.cellsOf 49 = 2 := by kernel_rfl
set_option maxRecDepth 20000 in
theorem write_of_trod {fuel : Nat} {cs : List Value} {y : DataW H × List MemPlace} (h : DataW.trod enc Tryd.prog w 0 (fun _ => true) true fuel 49 cs = some y) :
    ∃ x : ByteArray × ByteArray, cs = [.string x.1, .string x.2] ∧ (x.1.size ≤ maxLen ∧ x.2.size ≤ maxLen) := by
  obtain ⟨y0, y1, m, _, hl, j0, j1⟩ := trod_struct2 Tryd.underlying49 h
  rw [cells_wr] at hl
  match cs, hl with
  | [c0, c1], _ =>
    have i0 : DataW.trod enc Tryd.prog w 0 (fun _ => true) true m 9 ((([c0, c1] : List Value).drop 0).take (Tryd.prog.cellsOf 9)) = some y0 := j0
    rw [cells_str] at i0
    have i1 : DataW.trod enc Tryd.prog w 0 (fun _ => true) true m 9 ((([c0, c1] : List Value).drop 1).take (Tryd.prog.cellsOf 9)) = some y1 := j1
    rw [cells_str] at i1
    obtain ⟨s0, a0, _, w0⟩ := DataW.trod_string Tryd.underlying9 i0
    obtain ⟨s1, a1, _, w1⟩ := DataW.trod_string Tryd.underlying9 i1
    obtain rfl : c0 = .string s0 := List.head_eq_of_cons_eq a0
    obtain rfl : c1 = .string s1 := List.head_eq_of_cons_eq a1
    exact ⟨(s0, s1), rfl, w0, w1⟩
set_option maxRecDepth 20000 in
theorem writes_arg {r : Reach} {b0 : Nat} {v : Value} {d : DataW H} {p : List MemPlace} (hval : Value.okWide Tryd.prog w r b0 44 v) (h : DataW.Trod enc Tryd.prog w 0 (fun _ => true) true 44 v d p) :
    ∃ (a : Option Addr) (cap : Nat) (ws : TxtL), v = .slice a ws.length cap ∧ ws.length ≤ 9223372036854775807 ∧ (∀ x ∈ ws, x.1.size ≤ maxLen ∧ x.2.size ≤ maxLen) ∧ WrsAt w a ws := by
  obtain ⟨a, cap, xs, e, hl, hp, hr⟩ := rows_open (fun x : ByteArray × ByteArray => [.string x.1, .string x.2]) 2 (fun x => x.1.size ≤ maxLen ∧ x.2.size ≤ maxLen) (⟨#[]⟩, ⟨#[]⟩) Tryd.underlying44 cells_wr (fun fuel cs y ht => write_of_trod ht) hval h
  exact ⟨a, cap, xs, e, hl, hp, fun i x hx => by
    obtain ⟨b, o, ea, hc⟩ := hr i x hx
    exact ⟨b, o, ea, by simpa using hc 0 _ rfl, hc 1 _ rfl⟩⟩
end
end Go.Proofs.YtdkhnkhflbefbaaDoor
