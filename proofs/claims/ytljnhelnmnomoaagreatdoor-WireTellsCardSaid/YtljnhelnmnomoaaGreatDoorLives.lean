/- What a writer or a reader that the caller has made does, with the frame told in one word; the laws' example. -/
import Derived.Test.YtljnhelnmnomoaaGreatDoorReader7
import Derived.Test.YtljnhelnmnomoaaGreatDoorRefw
namespace Go.Proofs.YtljnhelnmnomoaaGreatDoor
open Go.RowKit Go.Lib

/-- The blocks from n on, below m. -/
def rng (n m : Nat) : Nat → Prop := fun k => n ≤ k ∧ k < m
theorem Genv.up {B C : Nat} {se : Nat → Addr} {w : World} (h : Genv B se w) (h1 : B ≤ C) (h2 : C ≤ w.heap.size) : Genv C se w :=
  ⟨h.cell, h.row, h.inj, h.et, fun k a b => ⟨Nat.lt_of_lt_of_le (h.low k a b).1 h1, Nat.lt_of_lt_of_le (h.low k a b).2 h1⟩, Nat.lt_of_lt_of_le h.lowt h1, h2⟩
theorem Upd.rngExt {n : Nat} {w w1 w2 : World} (h : Ext w w1) (hn : w.heap.size ≤ n) (k : Upd (rng n w1.heap.size) w1 w2) : Ext w w2 :=
  h.then k (fun b hb h => by have := h.1; omega)
theorem Upd.oneExt {b : Nat} {w w1 w2 : World} (h : Ext w w1) (hn : w.heap.size ≤ b) (k : Upd (one b) w1 w2) : Ext w w2 :=
  h.then k (fun c hb h => by have e : c = b := h; omega)
/-- Since the world w: a writer has been made, at b; it has the bytes xs. -/
structure Own (n : Nat) (se : Nat → Addr) (w w' : World) (b : Nat) (xs : List UInt8) : Prop where
  g : Genv n se w'
  x : Ext w w'
  hn : w.heap.size ≤ n
  w : Writer n w' (rng n w'.heap.size) b xs
theorem Own.step {n : Nat} {se : Nat → Addr} {w w1 w2 : World} {b : Nat} {xs ys : List UInt8} (h : Own n se w w1 b xs) (h2 : Writer n w2 (plus (rng n w1.heap.size) w1.heap.size w2.heap.size) b ys) (u : Upd (rng n w1.heap.size) w1 w2) : Own n se w w2 b ys := by
  have hs := u.size
  have hg := h.g.size
  exact ⟨h.g.below (u.below hg (fun k hk => hk.1)), Upd.rngExt h.x h.hn u, h.hn, h2.weaken (fun k hk => hk.elim (fun hk => ⟨hk.1, by have := hk.2; omega⟩) (fun hk => ⟨by have := hk.1; omega, hk.2⟩)) (fun k hk => hk)⟩
theorem Own.ext {n : Nat} {se : Nat → Addr} {w w1 w2 : World} {b : Nat} {xs : List UInt8} (h : Own n se w w1 b xs) (u : Ext w1 w2) : Own n se w w2 b xs :=
  h.step ((h.w.upd u (fun _ _ => id)).weaken (fun _ hk => .inl hk) (fun _ hk => ⟨hk.elim (fun hk => hk.1) (fun hk => Nat.le_trans h.g.size hk.1), hk.elim (fun hk => Nat.lt_of_lt_of_le hk.2 u.size) (fun hk => hk.2)⟩)) (Upd.ext u _)
theorem Own.new {B : Nat} {se : Nat → Addr} {w : World} (G : Genv B se w) : Own w.heap.size se w (w.alloc (.cells #[.slice none 0 0, .bool true] 127)) w.heap.size [] := by
  have X := (Upd.refl none' w).alloc (.cells #[.slice none 0 0, .bool true] 127)
  exact ⟨(G.up G.size (Nat.le_refl _)).ext X, X, Nat.le_refl _, (newWriter_is w w.heap.size (Nat.le_refl _)).weaken (fun k hk => by have e : k = w.heap.size := hk; subst e; exact ⟨Nat.le_refl _, by simp⟩) (fun k hk => hk)⟩
theorem own_new {B : Nat} {se : Nat → Addr} {w : World} (G : Genv B se w) : Calls Tryz.prog 25 #[] w fun e w' => e = .returned (.pointer (some ⟨w.heap.size, 0, none⟩)) ∧ Own w.heap.size se w w' w.heap.size [] :=
  (newWriter_ok w).mono (by rintro e w' ⟨rfl, rfl⟩; exact ⟨rfl, Own.new G⟩)
section
variable {n : Nat} {se : Nat → Addr} {w w1 : World} {b : Nat} {xs : List UInt8}
theorem Own.var (h : Own n se w w1 b xs) (x : Nat) (hx : x < 18446744073709551616) (hl : xs.length + 10 ≤ 1099511627776) :
    Calls Tryz.prog 28 #[.pointer (some ⟨b, 0, none⟩), .int .u64 x] w1 fun e w' => e = .returned (.tuple #[]) ∧ Own n se w w' b (xs ++ varB x) :=
  (wvar_ok h.w x hx h.g.size hl).mono (by rintro e w' ⟨rfl, a, u⟩; exact ⟨rfl, h.step a u⟩)
theorem Own.fixed (h : Own n se w w1 b xs) (x k : Nat) (hn2 : x < 18446744073709551616) (hk : 1 ≤ k) (hk2 : k ≤ 8) (hn : k < 8 → x / 2 ^ (8 * k) = 0) (hl : xs.length + 8 ≤ 1099511627776) :
    Calls Tryz.prog 26 #[.pointer (some ⟨b, 0, none⟩), .int .u64 x, .int .i64 k] w1 fun e w' => e = .returned .nilIface ∧ Own n se w w' b (xs ++ fixB k x) :=
  (wfixed_ok h.w x k hn2 hk hk2 hn h.g.size hl).mono (by rintro e w' ⟨rfl, a, u⟩; exact ⟨rfl, h.step a u⟩)
theorem Own.big (h : Own n se w w1 b xs) (x k : Nat) (hk : 1 ≤ k) (hk2 : k < 8) (hn : x / 2 ^ (8 * k) ≠ 0) (hn2 : x < 18446744073709551616) :
    Calls Tryz.prog 26 #[.pointer (some ⟨b, 0, none⟩), .int .u64 x, .int .i64 k] w1 fun e w' => e = .returned (sv se 2) ∧ Own n se w w' b xs := by
  obtain ⟨v, hb, _⟩ := h.w.ex
  exact (wfixed_big x k b w1 h.g (cell_of_blk hb 1) hk hk2 hn hn2).mono (by rintro e w' ⟨rfl, rfl⟩; exact ⟨rfl, h⟩)
theorem Own.text (h : Own n se w w1 b xs) (s : ByteArray) (hl : xs.length + 10 + s.size ≤ 1099511627776) :
    Calls Tryz.prog 30 #[.pointer (some ⟨b, 0, none⟩), .string s] w1 fun e w' => e = .returned (.tuple #[]) ∧ Own n se w w' b (xs ++ (varB s.size ++ s.data.toList)) :=
  (wtext_ok h.w s h.g.size hl).mono (by rintro e w' ⟨rfl, a, u⟩; exact ⟨rfl, h.step a u⟩)
theorem Own.hash (h : Own n se w w1 b xs) (hs : List UInt8) (hh : hs.length = 32) (hl : xs.length + 32 ≤ 1099511627776) :
    Calls Tryz.prog 118 #[.pointer (some ⟨b, 0, none⟩), .agg (hs.map u8v).toArray] w1 fun e w' => e = .returned (.tuple #[]) ∧ Own n se w w' b (xs ++ hs) :=
  (whash_ok h.w hs hh h.g.size hl).mono (by rintro e w' ⟨rfl, a, u⟩; exact ⟨rfl, h.step a u⟩)
theorem Own.done (h : Own n se w w1 b xs) : Calls Tryz.prog 113 #[.pointer (some ⟨b, 0, none⟩)] w1 fun e w' => e = .returned (.string (str xs)) ∧ w1 = w' := wdone_ok h.w
end
/-- Since the world w: a reader has been made, at b; it stands at x. -/
structure OwnR (n : Nat) (se : Nat → Addr) (w w' : World) (b : Nat) (x : RdD) : Prop where
  g : Genv n se w'
  e : Ext w w'
  hn : w.heap.size ≤ n
  r : Reader n se w' (rng n w'.heap.size) b x
theorem OwnR.step {n : Nat} {se : Nat → Addr} {w w1 w2 : World} {b : Nat} {xs ys : RdD} (h : OwnR n se w w1 b xs) (h2 : Reader n se w2 (plus (rng n w1.heap.size) w1.heap.size w2.heap.size) b ys) (u : Upd (one b) w1 w2) : OwnR n se w w2 b ys := by
  have hs := u.size
  have hg := h.g.size
  have hb := h.r.low b h.r.mem
  exact ⟨h.g.below (u.below hg (fun k hk => by have e : k = b := hk; omega)), Upd.oneExt h.e (Nat.le_trans h.hn hb) u, h.hn, h2.weaken (fun k hk => hk.elim (fun hk => ⟨hk.1, by have := hk.2; omega⟩) (fun hk => ⟨by have := hk.1; omega, hk.2⟩)) (fun k hk => hk)⟩
theorem OwnR.ext {n : Nat} {se : Nat → Addr} {w w1 w2 : World} {b : Nat} {xs : RdD} (h : OwnR n se w w1 b xs) (u : Ext w1 w2) : OwnR n se w w2 b xs :=
  h.step ((h.r.ext u).weaken (fun _ hk => .inl hk) (fun _ hk => ⟨hk.elim (fun hk => hk.1) (fun hk => Nat.le_trans h.g.size hk.1), hk.elim (fun hk => Nat.lt_of_lt_of_le hk.2 u.size) (fun hk => hk.2)⟩)) (Upd.ext u _)
theorem OwnR.new {B : Nat} {se : Nat → Addr} {w : World} (G : Genv B se w) (s : ByteArray) (hs : s.size ≤ 9223372036854775807) : OwnR w.heap.size se w (w.alloc (.cells #[.string s, .int .i64 0, .nilIface, .bool true] 145)) w.heap.size ⟨s, 0, none⟩ := by
  have X := (Upd.refl none' w).alloc (.cells #[.string s, .int .i64 0, .nilIface, .bool true] 145)
  exact ⟨(G.up G.size (Nat.le_refl _)).ext X, X, Nat.le_refl _, (newReader_is s hs w w.heap.size (Nat.le_refl _) se).weaken (fun k hk => by have e : k = w.heap.size := hk; subst e; exact ⟨Nat.le_refl _, by simp⟩) (fun k hk => hk)⟩
theorem ownR_new {B : Nat} {se : Nat → Addr} {w : World} (G : Genv B se w) (s : ByteArray) (hs : s.size ≤ 9223372036854775807) : Calls Tryz.prog 49 #[.string s] w fun e w' => e = .returned (.pointer (some ⟨w.heap.size, 0, none⟩)) ∧ OwnR w.heap.size se w w' w.heap.size ⟨s, 0, none⟩ :=
  (newReader_ok s w).mono (by rintro e w' ⟨rfl, rfl⟩; exact ⟨rfl, OwnR.new G s hs⟩)
section
variable {n : Nat} {se : Nat → Addr} {w w1 : World} {b : Nat} {x : RdD}
theorem OwnR.var (h : OwnR n se w w1 b x) : Calls Tryz.prog 52 #[.pointer (some ⟨b, 0, none⟩)] w1 fun e w' => e = .returned (.int .u64 x.var.1) ∧ OwnR n se w w' b x.var.2 :=
  (var_ok h.g h.r).mono (by rintro e w' ⟨rfl, a, u⟩; exact ⟨rfl, h.step a u⟩)
theorem OwnR.fixed (h : OwnR n se w w1 b x) (k : Int) : Calls Tryz.prog 50 #[.pointer (some ⟨b, 0, none⟩), .int .i64 k] w1 fun e w' => e = .returned (.int .u64 (x.fixed k).1) ∧ OwnR n se w w' b (x.fixed k).2 :=
  (fixed_ok h.g h.r k).mono (by rintro e w' ⟨rfl, a, u⟩; exact ⟨rfl, h.step a u⟩)
theorem OwnR.text (h : OwnR n se w w1 b x) (m : Int) (hm : m ≤ 9223372036854775807) : Calls Tryz.prog 53 #[.pointer (some ⟨b, 0, none⟩), .int .i64 m] w1 fun e w' => e = .returned (.string (str (x.text m).1)) ∧ OwnR n se w w' b (x.text m).2 :=
  (text_ok h.g h.r m hm).mono (by rintro e w' ⟨rfl, a, u⟩; exact ⟨rfl, h.step a u⟩)
theorem OwnR.hash (h : OwnR n se w w1 b x) : Calls Tryz.prog 106 #[.pointer (some ⟨b, 0, none⟩)] w1 fun e w' => e = .returned (.agg (x.hash.1.map u8v).toArray) ∧ OwnR n se w w' b x.hash.2 :=
  (hash_ok h.g h.r).mono (by rintro e w' ⟨rfl, a, u⟩; exact ⟨rfl, h.step a u⟩)
theorem OwnR.left (h : OwnR n se w w1 b x) : Calls Tryz.prog 158 #[.pointer (some ⟨b, 0, none⟩)] w1 fun e w' => e = .returned (.int .i64 x.left) ∧ OwnR n se w w' b x :=
  (left_ok h.r).mono (by rintro e w' ⟨rfl, u⟩; exact ⟨rfl, h.ext u⟩)
theorem OwnR.end (h : OwnR n se w w1 b x) : Calls Tryz.prog 54 #[.pointer (some ⟨b, 0, none⟩)] w1 fun e w' => ∃ v, e = .returned v ∧ ErrIs se w' v x.fin ∧ OwnR n se w w' b x :=
  (end_ok h.g h.r).mono (by rintro e w' ⟨v, rfl, hv, u⟩; exact ⟨v, rfl, hv, h.ext u⟩)
end
abbrev livesT : ByteArray := ⟨#[172, 2, 1, 2, 2, 97, 98, 9]⟩
theorem lives_put : str ([] ++ varB 300 ++ fixB 2 258 ++ (varB (⟨#[97, 98]⟩ : ByteArray).size ++ (⟨#[97, 98]⟩ : ByteArray).data.toList)) = ⟨#[172, 2, 1, 2, 2, 97, 98]⟩ := by rfl
theorem lives_1 : RdD.var ⟨livesT, 0, none⟩ = (300, ⟨livesT, 2, none⟩) := by rfl
theorem lives_2 : RdD.fixed ⟨livesT, 2, none⟩ 2 = (258, ⟨livesT, 4, none⟩) := by rfl
theorem lives_3 : RdD.text ⟨livesT, 4, none⟩ 2 = ([97, 98], ⟨livesT, 7, none⟩) := by rfl
theorem lives_4 : str [97, 98] = ⟨#[97, 98]⟩ := by rfl
theorem lives_5 : RdD.left ⟨livesT, 7, none⟩ = 1 := by rfl
theorem lives_6 : RdD.fin ⟨livesT, 7, none⟩ = some (3, some 7) := by rfl
theorem lives_7 : sameB (some (3, some 7)) 3 7 = true := by rfl
theorem lives_8 : sameB (some (2, none)) 2 (if (2 : Int) = 0 then 0 else -1) = true := by rfl
end Go.Proofs.YtljnhelnmnomoaaGreatDoor
