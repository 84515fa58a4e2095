/- codec.Reader: the calls on a reader that is not there, or that nobody made. -/
import Derived.Test.YtkabomkikbdigaaDoorLives
namespace Go.Proofs.YtkabomkikbdigaaDoor
open Go.RowKit Go.Lib

/-- A reader that is not there, or that nobody made. -/
def IdleR (p : Value) (w : World) : Prop := p = .pointer none ∨ ∃ b, p = .pointer (some ⟨b, 0, none⟩) ∧ w.cell? ⟨b, 3, none⟩ = some (.bool false)
theorem IdleR.upd {p : Value} {w w' : World} {S : Nat → Prop} (h : IdleR p w) (k : Upd S w w') (hn : ∀ b, p = .pointer (some ⟨b, 0, none⟩) → ¬ S b) : IdleR p w' := by
  rcases h with h | ⟨b, h1, h2⟩
  · exact .inl h
  · exact .inr ⟨b, h1, (k.cell (p := ⟨b, 3, none⟩) (lt_of_cell h2) (hn b h1)).trans h2⟩
theorem IdleR.ext {p : Value} {w w' : World} (h : IdleR p w) (k : Ext w w') : IdleR p w' := h.upd k (fun _ _ => id)
theorem end_idle {p : Value} {w : World} (h : IdleR p w) {B : Nat} {se : Nat → Addr} (G : Genv B se w) : Calls Tryd.prog 27 #[p] w fun e w' => e = .returned (sv se 1) ∧ w = w' := by
  have c1 := G.cell 1 (by decide) (by decide)
  simp only [gno] at c1
  clear G
  rcases h with rfl | ⟨b, rfl, h⟩
  · go_enter Tryd.func27, Tryd.ntmps27
    go_wp2
    go_ret
    exact ⟨rfl, rfl⟩
  · go_enter Tryd.func27, Tryd.ntmps27
    go_wp2
    go_ret
    exact ⟨rfl, rfl⟩
theorem ready_idle {p : Value} {w : World} (h : IdleR p w) : Calls Tryd.prog 49 #[p] w fun e w' => e = .returned (.bool false) ∧ w = w' := by
  rcases h with rfl | ⟨b, rfl, h⟩
  · go_enter Tryd.func49, Tryd.ntmps49
    go_wp2
    go_ret
    exact ⟨rfl, rfl⟩
  · go_enter Tryd.func49, Tryd.ntmps49
    go_wp2
    go_ret
    exact ⟨rfl, rfl⟩
theorem fail_idle {p : Value} {w : World} (h : IdleR p w) (v : Value) : Calls Tryd.prog 53 #[p, v] w fun e w' => e = .returned (.tuple #[]) ∧ w = w' := by
  have C := ready_idle h
  clear h
  go_enter Tryd.func53, Tryd.ntmps53
  go_wp2_with fail
  refine C.mono ?_
  rintro e w1 ⟨rfl, rfl⟩
  go_wp2_with fail
  go_end0
  exact ⟨rfl, rfl⟩
theorem left_idle {p : Value} {w : World} (h : IdleR p w) : Calls Tryd.prog 29 #[p] w fun e w' => e = .returned (.int .i64 0) ∧ w = w' := by
  have C := ready_idle h
  clear h
  go_enter Tryd.func29, Tryd.ntmps29
  go_wp2_with fail
  refine C.mono ?_
  rintro e w1 ⟨rfl, rfl⟩
  go_wp2_with fail
  go_ret
  exact ⟨rfl, rfl⟩
theorem var_idle {p : Value} {w : World} (h : IdleR p w) : Calls Tryd.prog 24 #[p] w fun e w' => e = .returned (.int .u64 0) ∧ w = w' := by
  have C := ready_idle h
  clear h
  go_enter Tryd.func24, Tryd.ntmps24
  go_wp2_with fail
  refine C.mono ?_
  rintro e w1 ⟨rfl, rfl⟩
  go_wp2_with fail
  go_ret
  exact ⟨rfl, rfl⟩
end Go.Proofs.YtkabomkikbdigaaDoor
