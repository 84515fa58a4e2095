/- An argument of texts, opened. -/
import Derived.Test.YtnkcfkjeeennmaaGreatDoorArgs
import Derived.Test.YtnkcfkjeeennmaaGreatDoorTxt
namespace Go.Proofs.YtnkcfkjeeennmaaGreatDoor
open Go.ChangeShapes Go.WideShapes Go.ChangeAt Go.RowKit Go.Lib Go.Deep

section
variable {H : Type} {enc : TypeId × Value → H} {w : World}
set_option maxRecDepth 20000 in
theorem strs_arg {r : Reach} {b0 : Nat} {v : Value} {d : DataW H} {p : List MemPlace} (hval : Value.okWide Tryz.prog w r b0 22 v) (h : DataW.Trod enc Tryz.prog w 0 (fun _ => true) true 22 v d p) :
    ∃ (a : Option Addr) (cap : Nat) (ss : List ByteArray), v = .slice a ss.length cap ∧ ss.length ≤ 9223372036854775807 ∧ TextsAt w a ss := by
  obtain ⟨a, cap, xs, e, hl, hp, hr⟩ := rows_open (fun x : ByteArray => [.string x]) 1 (fun x => x.size ≤ maxLen) ⟨#[]⟩ Tryz.underlying22 cells_str (fun fuel cs y ht => by
    obtain ⟨k, h1, _, h2⟩ := DataW.trod_string Tryz.underlying9 ht
    exact ⟨k, h1, h2⟩) hval h
  exact ⟨a, cap, xs, e, hl, fun i x hx => by
    obtain ⟨b, o, ea, hc⟩ := hr i x hx
    have := hc 0 _ rfl
    exact ⟨hp x (List.mem_of_getElem? hx), b, o, ea, by simpa using this⟩⟩
end
end Go.Proofs.YtnkcfkjeeennmaaGreatDoor
