/- codec.Writer: its calls by contracts. A writer's footprint S: the blocks that it may write. -/
import Derived.Test.YtkabomkikbdigaaDoorCode
namespace Go.Proofs.YtkabomkikbdigaaDoor
open Go.RowKit Go.Lib

abbrev u8v (c : UInt8) : Value := .int .u8 (c.toNat : Int)
theorem info_u8 : (Tryd.prog.info? 5).map (fun i => (i.zero, i.size, i.bytes)) = some (some (.int .u8 0), 1, 1) := by kernel_rfl
/-- The writer at block b has the bytes xs; its blocks are in S, from B on. -/
structure Writer (B : Nat) (w : World) (S : Nat → Prop) (b : Nat) (xs : List UInt8) : Prop where
  ex : ∃ v, w.heap[b]? = some (.cells #[v, .bool true] 30 (0, 0)) ∧ w.ownsRow B 5 1 v xs.length (xs.map u8v) ∧ v.ownBlock ≠ some b ∧ ∀ k, v.ownBlock = some k → S k
  mem : S b
  low : ∀ k, S k → B ≤ k
  lt : ∀ k, S k → k < w.heap.size
theorem ownsRow_upd {w w' : World} {T : Nat → Prop} {B e size n : Nat} {v : Value} {xs : List Value} (h : w.ownsRow B e size v n xs) (k : Upd T w w') (hT : ∀ g, v.ownBlock = some g → ¬ T g) : w'.ownsRow B e size v n xs := by
  refine ⟨h.1, ?_⟩
  rcases h.2 with hn | ⟨g, cap, cur, rfl, hb, hgg, rest⟩
  · exact .inl hn
  · exact .inr ⟨g, cap, cur, rfl, hb, k.blk hgg (hT g rfl), rest⟩
theorem Writer.upd {B b : Nat} {w w' : World} {S T : Nat → Prop} {xs : List UInt8} (h : Writer B w S b xs) (k : Upd T w w') (hT : ∀ g, S g → ¬ T g) : Writer B w' S b xs where
  ex := by
    obtain ⟨v, h1, h2, h3, h4⟩ := h.ex
    exact ⟨v, k.blk h1 (hT b h.mem), ownsRow_upd h2 k (fun g hg => hT g (h4 g hg)), h3, h4⟩
  mem := h.mem
  low := h.low
  lt g hg := Nat.lt_of_lt_of_le (h.lt g hg) k.size
theorem Writer.weaken {B b : Nat} {w : World} {S S' : Nat → Prop} {xs : List UInt8} (h : Writer B w S b xs) (h1 : ∀ k, S k → S' k) (h2 : ∀ k, S' k → B ≤ k ∧ k < w.heap.size) : Writer B w S' b xs where
  ex := by obtain ⟨v, a, c, d, f⟩ := h.ex; exact ⟨v, a, c, d, fun k hk => h1 k (f k hk)⟩
  mem := h1 b h.mem
  low k hk := (h2 k hk).1
  lt k hk := (h2 k hk).2
/-- S and what is new. -/
def plus (S : Nat → Prop) (n m : Nat) : Nat → Prop := fun k => S k ∨ (n ≤ k ∧ k < m)
/-- A value that an owned row has: a slice written out. -/
theorem own_form {w : World} {B e size n : Nat} {v : Value} {xs : List Value} (h : w.ownsRow B e size v n xs) : (v = .slice none 0 0 ∧ n = 0) ∨ ∃ g cap, v = .slice (some ⟨g, 0, none⟩) n cap ∧ B ≤ g := by
  rcases h.2 with h | ⟨g, cap, cur, h1, h2, _⟩
  · exact .inl h
  · exact .inr ⟨g, cap, h1, h2⟩

theorem put_ok {B b : Nat} {w : World} {S : Nat → Prop} {xs : List UInt8} (h : Writer B w S b xs) (ad : Addr) (ps : List UInt8) (c : Nat) (hB : B ≤ w.heap.size)
    (hc : ∀ j u, (ps.map u8v)[j]? = some u → w.cell? (ad.add j) = some u) (hn : xs.length + ps.length ≤ 1099511627776) :
    Calls Tryd.prog 48 #[.pointer (some ⟨b, 0, none⟩), .slice (some ad) ps.length c] w fun e w' =>
      e = .returned (.tuple #[]) ∧ Writer B w' (plus S w.heap.size w'.heap.size) b (xs ++ ps) ∧ Upd S w w' := by
  obtain ⟨v, hb, hown, hne, hS⟩ := h.ex
  obtain ⟨i0, hi, hz0, hz1, hz2⟩ := info_parts info_u8
  have h0 : w.cell? ⟨b, 0, none⟩ = some v := cell_of_blk hb 0
  have h1 : w.cell? ⟨b, 1, none⟩ = some (.bool true) := cell_of_blk hb 1
  have hlt := lt_of_blk hb
  have hlen : xs.length + ps.length ≤ maxLen := by unfold maxLen; omega
  have HH := Lib.hid h
  have HO := Lib.hid hown
  have HB := Lib.hid hb
  have HN := Lib.hid hne
  have HS := Lib.hid hS
  clear h hown hb hne hS
  go_enter Tryd.func48, Tryd.ntmps48
  go_wp2_with (at_builtin; refine wpList_app rfl _ _ 28 rfl B 5 i0 (.int .u8 0) 1 1 Tryd.underlying28 hi hz0 hz1 hz2 rfl (by decide) v xs.length _ rfl HO.out ad ps.length c (ps.map u8v) rfl ?c1 ?c2 ?c3 ?c4 ?c5 ?c6 ?_)
  case c1 => simp
  case c2 => exact hc
  case c3 => intro u hu; obtain ⟨x, _, rfl⟩ := List.mem_map.1 hu; rfl
  case c4 => exact hlen
  case c5 => omega
  case c6 => exact hB
  intro v' w1 hown' hg hbl
  have hb1 : w1.heap[b]? = some (.cells #[v, .bool true] 30 (0, 0)) := by
    rw [hg.block b hlt (fun e => HN.out e.symm)]; exact HB.out
  have k0 : w1.cell? ⟨b, 0, none⟩ = some v := cell_of_blk hb1 0
  have k1 : w1.frozen? ⟨b, 0, none⟩ = false := free_of_blk hb1 0
  have hU : Upd S w w1 := (Upd.refl S w).grown hg (fun k hk => .inr (HS.out k hk))
  have hne' : v'.ownBlock ≠ some b ∧ ∀ k, v'.ownBlock = some k → plus S w.heap.size w1.heap.size k := by
    have hlt' := fun k hk => (hown'.lt k hk).2
    rcases hbl with e | e
    · exact ⟨by rw [e]; exact HN.out, fun k hk => .inl (HS.out k (by rw [← e]; exact hk))⟩
    · refine ⟨by rw [e]; simp; omega, fun k hk => .inr ⟨?_, hlt' k hk⟩⟩
      rw [e] at hk; cases hk; exact Nat.le_refl _
  have fin : Writer B (w1.setCell ⟨b, 0, none⟩ v') (plus S w.heap.size w1.heap.size) b (xs ++ ps) ∧ Upd S w (w1.setCell ⟨b, 0, none⟩ v') := by
    refine ⟨⟨⟨v', ?_, ?_, hne'.1, hne'.2⟩, .inl HH.out.mem, ?_, ?_⟩, hU.setCell (.inr HH.out.mem) _⟩
    · simpa using blk_set hb1 0 v'
    · have := ownsRow_upd hown' ((Upd.refl (one b) w1).setCell (p := ⟨b, 0, none⟩) (.inr rfl) v') (fun g hg e => hne'.1 (by rw [hg, e]))
      simpa using this
    · rintro k (hk | hk); · exact HH.out.low k hk
      omega
    · intro k hk
      have : (w1.setCell ⟨b, 0, none⟩ v').heap.size = w1.heap.size := by simp [World.setCell]
      rw [this]
      rcases hk with hk | hk
      · exact Nat.lt_of_lt_of_le (HH.out.lt k hk) hU.size
      · exact hk.2
  have fin' := Lib.hid fin
  have form := own_form hown'
  clear hown' hb1 hg hbl hne' hU fin
  have hsz : (w1.setCell ⟨b, 0, none⟩ v').heap.size = w1.heap.size := by simp [World.setCell]
  have HZ := Lib.hid hsz
  clear hsz
  rcases form with ⟨rfl, _⟩ | ⟨g, cap, rfl, _⟩
  all_goals
    go_wp2
    go_end0
    exact ⟨rfl, by rw [HZ.out]; exact fin'.out.1, fin'.out.2⟩

theorem put_none (v : Value) (w : World) : Calls Tryd.prog 48 #[.pointer none, v] w fun e w' => e = .returned (.tuple #[]) ∧ w = w' := by
  go_enter Tryd.func48, Tryd.ntmps48
  go_wp2
  go_end0
  exact ⟨rfl, rfl⟩
theorem put_un (v : Value) (b : Nat) (w : World) (h : w.cell? ⟨b, 1, none⟩ = some (.bool false)) : Calls Tryd.prog 48 #[.pointer (some ⟨b, 0, none⟩), v] w fun e w' => e = .returned (.tuple #[]) ∧ w = w' := by
  go_enter Tryd.func48, Tryd.ntmps48
  go_wp2
  go_end0
  exact ⟨rfl, rfl⟩
end Go.Proofs.YtkabomkikbdigaaDoor
