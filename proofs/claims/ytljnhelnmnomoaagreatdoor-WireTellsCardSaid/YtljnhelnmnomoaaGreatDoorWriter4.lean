/- codec.Writer: calls on a writer that is not there, or that nobody made. -/
import Derived.Test.YtljnhelnmnomoaaGreatDoorWriter3
namespace Go.Proofs.YtljnhelnmnomoaaGreatDoor
open Go.RowKit Go.Lib

/-- No writer, or one that nobody made. -/
def Idle (p : Value) (w : World) : Prop := p = .pointer none ∨ ∃ b, p = .pointer (some ⟨b, 0, none⟩) ∧ w.heap[b]? = some (.cells #[.slice none 0 0, .bool false] 127 (0, 0))
theorem Idle.upd {p : Value} {w w' : World} {S : Nat → Prop} (h : Idle p w) (k : Upd S w w') (hn : ∀ b, p = .pointer (some ⟨b, 0, none⟩) → ¬ S b) : Idle p w' := by
  rcases h with h | ⟨b, h1, h2⟩
  · exact .inl h
  · exact .inr ⟨b, h1, k.blk h2 (hn b h1)⟩
theorem Idle.ext {p : Value} {w w' : World} (h : Idle p w) (k : Ext w w') : Idle p w' := h.upd k (fun _ _ => id)
theorem put_idle {p : Value} {w : World} (h : Idle p w) (v : Value) : Calls Tryz.prog 112 #[p, v] w fun e w' => e = .returned (.tuple #[]) ∧ w = w' := by
  rcases h with rfl | ⟨b, rfl, h⟩
  · exact put_none v w
  · exact put_un v b w (cell_of_blk h 1)
theorem wdone_idle {p : Value} {w : World} (h : Idle p w) : Calls Tryz.prog 113 #[p] w fun e w' => e = .returned (.string ⟨#[]⟩) ∧ w = w' := by
  rcases h with rfl | ⟨b, rfl, h⟩
  · exact wdone_none w
  · exact wdone_un b w (cell_of_blk h 0)
theorem wfixed_idle {p : Value} {w : World} (h : Idle p w) (v u : Value) {B : Nat} {se : Nat → Addr} (G : Genv B se w) : Calls Tryz.prog 26 #[p, v, u] w fun e w' => e = .returned (sv se 1) ∧ w = w' := by
  rcases h with rfl | ⟨b, rfl, h⟩
  · exact wfixed_nil v u w G
  · exact wfixed_un v u b w G (cell_of_blk h 1)
theorem wvar_idle {p : Value} {w : World} (h : Idle p w) (n : Nat) (hn : n < 18446744073709551616) : Calls Tryz.prog 28 #[p, .int .u64 n] w fun e w' => e = .returned (.tuple #[]) ∧ Ext w w' := by
  have HH := Lib.hid h
  have hp : ∃ a, p = .pointer a := by rcases h with rfl | ⟨b, rfl, _⟩ <;> exact ⟨_, rfl⟩
  obtain ⟨a, rfl⟩ := hp
  clear h
  go_enter Tryz.func28, Tryz.ntmps28
  go_wp2
  go_loopw [1] (fun nv wr => ∃ (m : Nat), nv = .int .u64 m ∧ m < 18446744073709551616 ∧ Ext w wr) (fun nv _ => (intOf nv).toNat)
  case atStart => exact ⟨n, rfl, hn, Upd.refl _ _⟩
  case round =>
    obtain ⟨m, rfl, hm, hu⟩ := hrel
    have HU := Lib.hid hu
    have C := fun o v => put_idle (HH.out.ext (hu.alloc o)) v
    clear hu
    by_cases hlt : m ≤ 127
    all_goals
      go_wp2_with (go_at_call 112; refine (C _ _).mono ?_; rintro e w' ⟨rfl, rfl⟩)
    · go_end0
      exact ⟨rfl, HU.out.alloc _⟩
    · refine ⟨⟨m / 128, by simp, by omega, HU.out.alloc _⟩, by simp [intOf]; omega⟩
theorem wtext_idle {p : Value} {w : World} (h : Idle p w) (s : ByteArray) (hs : s.size ≤ 9223372036854775807) : Calls Tryz.prog 30 #[p, .string s] w fun e w' => e = .returned (.tuple #[]) ∧ Ext w w' := by
  have C := wvar_idle h s.size (by omega)
  have HH := Lib.hid h
  rcases h with rfl | ⟨b, rfl, h⟩
  · go_enter Tryz.func30, Tryz.ntmps30
    go_wp2_with fail
    refine C.mono ?_
    rintro e w1 ⟨rfl, hU⟩
    go_wp2
    go_end0
    exact ⟨rfl, hU⟩
  · clear h
    go_enter Tryz.func30, Tryz.ntmps30
    go_wp2_with fail
    refine C.mono ?_
    rintro e w1 ⟨rfl, hU⟩
    have h1 : w1.cell? ⟨b, 1, none⟩ = some (.bool false) := by
      rcases HH.out.ext hU with h | ⟨b', e, h⟩
      · cases h
      · cases e; exact cell_of_blk h 1
    go_wp2
    go_end0
    exact ⟨rfl, hU⟩
theorem whash_idle {p : Value} {w : World} (h : Idle p w) (cs : Array Value) (_hc : cs.size = 32) : Calls Tryz.prog 118 #[p, .agg cs] w fun e w' => e = .returned (.tuple #[]) ∧ Ext w w' := by
  have X := (Upd.refl none' w).alloc (.cells cs 120)
  have C := fun v => put_idle (h.ext X) v
  have hp : ∃ a, p = .pointer a := by rcases h with rfl | ⟨b, rfl, _⟩ <;> exact ⟨_, rfl⟩
  obtain ⟨a, rfl⟩ := hp
  have HX := Lib.hid X
  clear h X
  go_enter Tryz.func118, Tryz.ntmps118
  go_wp2_with (go_at_call 112; refine (C _).mono ?_; rintro e w' ⟨rfl, rfl⟩)
  go_end0
  exact ⟨rfl, HX.out⟩
/-- A new writer. -/
theorem newWriter_ok (w : World) : Calls Tryz.prog 25 #[] w fun e w' => e = .returned (.pointer (some ⟨w.heap.size, 0, none⟩)) ∧ w' = w.alloc (.cells #[.slice none 0 0, .bool true] 127) := by
  go_enter Tryz.func25, Tryz.ntmps25
  go_wp2
  go_ret
  exact ⟨rfl, rfl⟩
theorem newWriter_is (w : World) (B : Nat) (hB : B ≤ w.heap.size) : Writer B (w.alloc (.cells #[.slice none 0 0, .bool true] 127)) (one w.heap.size) w.heap.size [] where
  ex := ⟨.slice none 0 0, blk_alloc w _, World.ownsRow_nil _ _ _ _, by simp [Value.ownBlock], fun k hk => by simp [Value.ownBlock] at hk⟩
  mem := rfl
  low k hk := by cases hk; exact hB
  lt k hk := by cases hk; simp
end Go.Proofs.YtljnhelnmnomoaaGreatDoor
