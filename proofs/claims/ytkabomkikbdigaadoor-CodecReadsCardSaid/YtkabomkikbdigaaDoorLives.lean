/- What a writer or a reader that the caller has made does, with the frame told in one word; the laws' example. -/
import Derived.Test.YtkabomkikbdigaaDoorReader7
import Derived.Test.YtkabomkikbdigaaDoorForm
namespace Go.Proofs.YtkabomkikbdigaaDoor
open Go.RowKit Go.Lib

/-- The blocks from n on, below m. -/
def rng (n m : Nat) : Nat → Prop := fun k => n ≤ k ∧ k < m
theorem Genv.up {B C : Nat} {se : Nat → Addr} {w : World} (h : Genv B se w) (h1 : B ≤ C) (h2 : C ≤ w.heap.size) : Genv C se w :=
  ⟨h.cell, h.row, h.inj, h.et, fun k a b => ⟨Nat.lt_of_lt_of_le (h.low k a b).1 h1, Nat.lt_of_lt_of_le (h.low k a b).2 h1⟩, Nat.lt_of_lt_of_le h.lowt h1, h2⟩
theorem Upd.rngExt {n : Nat} {w w1 w2 : World} (h : Ext w w1) (hn : w.heap.size ≤ n) (k : Upd (rng n w1.heap.size) w1 w2) : Ext w w2 :=
  h.then k (fun b hb h => by have := h.1; omega)
theorem Upd.oneExt {b : Nat} {w w1 w2 : World} (h : Ext w w1) (hn : w.heap.size ≤ b) (k : Upd (one b) w1 w2) : Ext w w2 :=
  h.then k (fun c hb h => by have e : c = b := h; omega)
/-- Since the world w: a writer has been made, at b; it has the bytes xs. -/
structure Own (n : Nat) (se : Nat → Addr) (w w' : World) (b : Nat) (xs : List UInt8) : Prop where
  g : Genv n se w'
  x : Ext w w'
  hn : w.heap.size ≤ n
  w : Writer n w' (rng n w'.heap.size) b xs
theorem Own.step {n : Nat} {se : Nat → Addr} {w w1 w2 : World} {b : Nat} {xs ys : List UInt8} (h : Own n se w w1 b xs) (h2 : Writer n w2 (plus (rng n w1.heap.size) w1.heap.size w2.heap.size) b ys) (u : Upd (rng n w1.heap.size) w1 w2) : Own n se w w2 b ys := by
  have hs := u.size
  have hg := h.g.size
  exact ⟨h.g.below (u.below hg (fun k hk => hk.1)), Upd.rngExt h.x h.hn u, h.hn, h2.weaken (fun k hk => hk.elim (fun hk => ⟨hk.1, by have := hk.2; omega⟩) (fun hk => ⟨by have := hk.1; omega, hk.2⟩)) (fun k hk => hk)⟩
theorem Own.ext {n : Nat} {se : Nat → Addr} {w w1 w2 : World} {b : Nat} {xs : List UInt8} (h : Own n se w w1 b xs) (u : Ext w1 w2) : Own n se w w2 b xs :=
  h.step ((h.w.upd u (fun _ _ => id)).weaken (fun _ hk => .inl hk) (fun _ hk => ⟨hk.elim (fun hk => hk.1) (fun hk => Nat.le_trans h.g.size hk.1), hk.elim (fun hk => Nat.lt_of_lt_of_le hk.2 u.size) (fun hk => hk.2)⟩)) (Upd.ext u _)
theorem Own.new {B : Nat} {se : Nat → Addr} {w : World} (G : Genv B se w) : Own w.heap.size se w (w.alloc (.cells #[.slice none 0 0, .bool true] 30)) w.heap.size [] := by
  have X := (Upd.refl none' w).alloc (.cells #[.slice none 0 0, .bool true] 30)
  exact ⟨(G.up G.size (Nat.le_refl _)).ext X, X, Nat.le_refl _, (newWriter_is w w.heap.size (Nat.le_refl _)).weaken (fun k hk => by have e : k = w.heap.size := hk; subst e; exact ⟨Nat.le_refl _, by simp⟩) (fun k hk => hk)⟩
theorem own_new {B : Nat} {se : Nat → Addr} {w : World} (G : Genv B se w) : Calls Tryd.prog 13 #[] w fun e w' => e = .returned (.pointer (some ⟨w.heap.size, 0, none⟩)) ∧ Own w.heap.size se w w' w.heap.size [] :=
  (newWriter_ok w).mono (by rintro e w' ⟨rfl, rfl⟩; exact ⟨rfl, Own.new G⟩)
section
variable {n : Nat} {se : Nat → Addr} {w w1 : World} {b : Nat} {xs : List UInt8}
theorem Own.var (h : Own n se w w1 b xs) (x : Nat) (hx : x < 18446744073709551616) (hl : xs.length + 10 ≤ 1099511627776) :
    Calls Tryd.prog 21 #[.pointer (some ⟨b, 0, none⟩), .int .u64 x] w1 fun e w' => e = .returned (.tuple #[]) ∧ Own n se w w' b (xs ++ varB x) :=
  (wvar_ok h.w x hx h.g.size hl).mono (by rintro e w' ⟨rfl, a, u⟩; exact ⟨rfl, h.step a u⟩)
theorem Own.fixed (h : Own n se w w1 b xs) (x k : Nat) (hn2 : x < 18446744073709551616) (hk : 1 ≤ k) (hk2 : k ≤ 8) (hn : k < 8 → x / 2 ^ (8 * k) = 0) (hl : xs.length + 8 ≤ 1099511627776) :
    Calls Tryd.prog 30 #[.pointer (some ⟨b, 0, none⟩), .int .u64 x, .int .i64 k] w1 fun e w' => e = .returned .nilIface ∧ Own n se w w' b (xs ++ fixB k x) :=
  (wfixed_ok h.w x k hn2 hk hk2 hn h.g.size hl).mono (by rintro e w' ⟨rfl, a, u⟩; exact ⟨rfl, h.step a u⟩)
theorem Own.big (h : Own n se w w1 b xs) (x k : Nat) (hk : 1 ≤ k) (hk2 : k < 8) (hn : x / 2 ^ (8 * k) ≠ 0) (hn2 : x < 18446744073709551616) :
    Calls Tryd.prog 30 #[.pointer (some ⟨b, 0, none⟩), .int .u64 x, .int .i64 k] w1 fun e w' => e = .returned (sv se 2) ∧ Own n se w w' b xs := by
  obtain ⟨v, hb, _⟩ := h.w.ex
  exact (wfixed_big x k b w1 h.g (cell_of_blk hb 1) hk hk2 hn hn2).mono (by rintro e w' ⟨rfl, rfl⟩; exact ⟨rfl, h⟩)
theorem Own.text (h : Own n se w w1 b xs) (s : ByteArray) (hl : xs.length + 10 + s.size ≤ 1099511627776) :
    Calls Tryd.prog 45 #[.pointer (some ⟨b, 0, none⟩), .string s] w1 fun e w' => e = .returned (.tuple #[]) ∧ Own n se w w' b (xs ++ (varB s.size ++ s.data.toList)) :=
  (wtext_ok h.w s h.g.size hl).mono (by rintro e w' ⟨rfl, a, u⟩; exact ⟨rfl, h.step a u⟩)
theorem Own.hash (h : Own n se w w1 b xs) (hs : List UInt8) (hh : hs.length = 32) (hl : xs.length + 32 ≤ 1099511627776) :
    Calls Tryd.prog 22 #[.pointer (some ⟨b, 0, none⟩), .agg (hs.map u8v).toArray] w1 fun e w' => e = .returned (.tuple #[]) ∧ Own n se w w' b (xs ++ hs) :=
  (whash_ok h.w hs hh h.g.size hl).mono (by rintro e w' ⟨rfl, a, u⟩; exact ⟨rfl, h.step a u⟩)
theorem Own.done (h : Own n se w w1 b xs) : Calls Tryd.prog 19 #[.pointer (some ⟨b, 0, none⟩)] w1 fun e w' => e = .returned (.string (str xs)) ∧ w1 = w' := wdone_ok h.w
theorem Own.put (h : Own n se w w1 b xs) (x : ThingD) (hx : x.Ok) (ht : x.t.size ≤ 1048576) (hl : xs.length + 1048676 ≤ 1099511627776) :
    Calls Tryd.prog 17 #[.pointer (some ⟨b, 0, none⟩), .agg (thingCells x).toArray] w1 fun e w' => ∃ v, e = .returned v ∧ ErrIs se w' v (formE x) ∧ Own n se w w' b (xs ++ formB x) :=
  (putT_ok h.g h.w x hx ht hl).mono (by rintro e w' ⟨v, rfl, hv, a, u⟩; exact ⟨v, rfl, hv, h.step a u⟩)
end
/-- Since the world w: a reader has been made, at b; it stands at x. -/
structure OwnR (n : Nat) (se : Nat → Addr) (w w' : World) (b : Nat) (x : RdD) : Prop where
  g : Genv n se w'
  e : Ext w w'
  hn : w.heap.size ≤ n
  r : Reader n se w' (rng n w'.heap.size) b x
theorem OwnR.step {n : Nat} {se : Nat → Addr} {w w1 w2 : World} {b : Nat} {xs ys : RdD} (h : OwnR n se w w1 b xs) (h2 : Reader n se w2 (plus (rng n w1.heap.size) w1.heap.size w2.heap.size) b ys) (u : Upd (one b) w1 w2) : OwnR n se w w2 b ys := by
  have hs := u.size
  have hg := h.g.size
  have hb := h.r.low b h.r.mem
  exact ⟨h.g.below (u.below hg (fun k hk => by have e : k = b := hk; omega)), Upd.oneExt h.e (Nat.le_trans h.hn hb) u, h.hn, h2.weaken (fun k hk => hk.elim (fun hk => ⟨hk.1, by have := hk.2; omega⟩) (fun hk => ⟨by have := hk.1; omega, hk.2⟩)) (fun k hk => hk)⟩
theorem OwnR.ext {n : Nat} {se : Nat → Addr} {w w1 w2 : World} {b : Nat} {xs : RdD} (h : OwnR n se w w1 b xs) (u : Ext w1 w2) : OwnR n se w w2 b xs :=
  h.step ((h.r.ext u).weaken (fun _ hk => .inl hk) (fun _ hk => ⟨hk.elim (fun hk => hk.1) (fun hk => Nat.le_trans h.g.size hk.1), hk.elim (fun hk => Nat.lt_of_lt_of_le hk.2 u.size) (fun hk => hk.2)⟩)) (Upd.ext u _)
theorem OwnR.new {B : Nat} {se : Nat → Addr} {w : World} (G : Genv B se w) (s : ByteArray) (hs : s.size ≤ 9223372036854775807) : OwnR w.heap.size se w (w.alloc (.cells #[.string s, .int .i64 0, .nilIface, .bool true] 62)) w.heap.size ⟨s, 0, none⟩ := by
  have X := (Upd.refl none' w).alloc (.cells #[.string s, .int .i64 0, .nilIface, .bool true] 62)
  exact ⟨(G.up G.size (Nat.le_refl _)).ext X, X, Nat.le_refl _, (newReader_is s hs w w.heap.size (Nat.le_refl _) se).weaken (fun k hk => by have e : k = w.heap.size := hk; subst e; exact ⟨Nat.le_refl _, by simp⟩) (fun k hk => hk)⟩
theorem ownR_new {B : Nat} {se : Nat → Addr} {w : World} (G : Genv B se w) (s : ByteArray) (hs : s.size ≤ 9223372036854775807) : Calls Tryd.prog 23 #[.string s] w fun e w' => e = .returned (.pointer (some ⟨w.heap.size, 0, none⟩)) ∧ OwnR w.heap.size se w w' w.heap.size ⟨s, 0, none⟩ :=
  (newReader_ok s w).mono (by rintro e w' ⟨rfl, rfl⟩; exact ⟨rfl, OwnR.new G s hs⟩)
section
variable {n : Nat} {se : Nat → Addr} {w w1 : World} {b : Nat} {x : RdD}
theorem OwnR.var (h : OwnR n se w w1 b x) : Calls Tryd.prog 24 #[.pointer (some ⟨b, 0, none⟩)] w1 fun e w' => e = .returned (.int .u64 x.var.1) ∧ OwnR n se w w' b x.var.2 :=
  (var_ok h.g h.r).mono (by rintro e w' ⟨rfl, a, u⟩; exact ⟨rfl, h.step a u⟩)
theorem OwnR.fixed (h : OwnR n se w w1 b x) (k : Int) : Calls Tryd.prog 35 #[.pointer (some ⟨b, 0, none⟩), .int .i64 k] w1 fun e w' => e = .returned (.int .u64 (x.fixed k).1) ∧ OwnR n se w w' b (x.fixed k).2 :=
  (fixed_ok h.g h.r k).mono (by rintro e w' ⟨rfl, a, u⟩; exact ⟨rfl, h.step a u⟩)
theorem OwnR.text (h : OwnR n se w w1 b x) (m : Int) (hm : m ≤ 9223372036854775807) : Calls Tryd.prog 25 #[.pointer (some ⟨b, 0, none⟩), .int .i64 m] w1 fun e w' => e = .returned (.string (str (x.text m).1)) ∧ OwnR n se w w' b (x.text m).2 :=
  (text_ok h.g h.r m hm).mono (by rintro e w' ⟨rfl, a, u⟩; exact ⟨rfl, h.step a u⟩)
theorem OwnR.hash (h : OwnR n se w w1 b x) : Calls Tryd.prog 56 #[.pointer (some ⟨b, 0, none⟩)] w1 fun e w' => e = .returned (.agg (x.hash.1.map u8v).toArray) ∧ OwnR n se w w' b x.hash.2 :=
  (hash_ok h.g h.r).mono (by rintro e w' ⟨rfl, a, u⟩; exact ⟨rfl, h.step a u⟩)
theorem OwnR.left (h : OwnR n se w w1 b x) : Calls Tryd.prog 29 #[.pointer (some ⟨b, 0, none⟩)] w1 fun e w' => e = .returned (.int .i64 x.left) ∧ OwnR n se w w' b x :=
  (left_ok h.r).mono (by rintro e w' ⟨rfl, u⟩; exact ⟨rfl, h.ext u⟩)
theorem OwnR.end (h : OwnR n se w w1 b x) : Calls Tryd.prog 27 #[.pointer (some ⟨b, 0, none⟩)] w1 fun e w' => ∃ v, e = .returned v ∧ ErrIs se w' v x.fin ∧ OwnR n se w w' b x :=
  (end_ok h.g h.r).mono (by rintro e w' ⟨v, rfl, hv, u⟩; exact ⟨v, rfl, hv, h.ext u⟩)
end
/-- is: an error of which no place is told. -/
theorem is2_any {B : Nat} {se : Nat → Addr} {w : World} (G : Genv B se w) {v : Value} {x : EV} (hv : ErrIs se w v x) (c : Int) :
    Calls Tryd.prog 28 #[v, .int .i64 c] w fun e w' => e = .returned (.bool (sameB x c (if c = 0 then 0 else -1))) ∧ Ext w w' := by
  have HG := Lib.hid G
  have HV := Lib.hid hv
  have P := plain_any c
  generalize (if c = 0 then (0 : Int) else -1) = p at P ⊢
  clear G hv
  go_enter Tryd.func28, Tryd.ntmps28
  go_wp2_with fail
  refine (P _).mono ?_
  rintro e w1 ⟨rfl, hX⟩
  have HX := Lib.hid hX
  have C := same_any (HG.out.ext hX) (HV.out.ext hX) c p
  clear hX
  go_wp2_with fail
  refine C.mono ?_
  rintro e w2 ⟨rfl, hX2⟩
  have A := HX.out.thenExt hX2
  clear hX2
  go_wp2_with fail
  go_ret
  exact ⟨rfl, A⟩
/-- at: an error with its place. -/
theorem at2_any {B : Nat} {se : Nat → Addr} {w : World} (G : Genv B se w) {v : Value} {x : EV} (hv : ErrIs se w v x) (c a : Int) :
    Calls Tryd.prog 26 #[v, .int .i64 c, .int .i64 a] w fun e w' => e = .returned (.bool (sameB x c a)) ∧ Ext w w' := by
  have HG := Lib.hid G
  have HV := Lib.hid hv
  clear G hv
  go_enter Tryd.func26, Tryd.ntmps26
  go_wp2_with fail
  refine (placed_any c a _).mono ?_
  rintro e w1 ⟨rfl, hX⟩
  have HX := Lib.hid hX
  have C := same_any (HG.out.ext hX) (HV.out.ext hX) c a
  clear hX
  go_wp2_with fail
  refine C.mono ?_
  rintro e w2 ⟨rfl, hX2⟩
  have A := HX.out.thenExt hX2
  clear hX2
  go_wp2_with fail
  go_ret
  exact ⟨rfl, A⟩
abbrev livesT : ByteArray := ⟨#[172, 2, 1, 2, 2, 97, 98, 9]⟩
theorem lives_put : str ([] ++ varB 300 ++ fixB 2 258 ++ (varB (⟨#[97, 98]⟩ : ByteArray).size ++ (⟨#[97, 98]⟩ : ByteArray).data.toList)) = ⟨#[172, 2, 1, 2, 2, 97, 98]⟩ := by rfl
theorem lives_1 : RdD.var ⟨livesT, 0, none⟩ = (300, ⟨livesT, 2, none⟩) := by rfl
theorem lives_2 : RdD.fixed ⟨livesT, 2, none⟩ 2 = (258, ⟨livesT, 4, none⟩) := by rfl
theorem lives_3 : RdD.text ⟨livesT, 4, none⟩ 2 = ([97, 98], ⟨livesT, 7, none⟩) := by rfl
theorem lives_4 : str [97, 98] = ⟨#[97, 98]⟩ := by rfl
theorem lives_5 : RdD.left ⟨livesT, 7, none⟩ = 1 := by rfl
theorem lives_6 : RdD.fin ⟨livesT, 7, none⟩ = some (3, some 7) := by rfl
theorem lives_7 : sameB (some (3, some 7)) 3 7 = true := by rfl
theorem lives_8 : sameB (some (2, none)) 2 (if (2 : Int) = 0 then 0 else -1) = true := by rfl
set_option maxRecDepth 8000 in
/-- lives: the example is as it was told. -/
theorem lives_any {B : Nat} {se : Nat → Addr} {w : World} (G : Genv B se w) : Calls Tryd.prog 20 #[] w fun e w' => e = .returned (.bool true) ∧ Ext w w' := by
  have HG := Lib.hid G
  clear G
  go_enter Tryd.func20, Tryd.ntmps20
  go_wp2_with fail
  refine (own_new HG.out).mono ?_
  rintro e w1 ⟨rfl, O⟩
  have HO1 := Lib.hid O; clear O
  go_wp2_with fail
  refine (HO1.out.var 300 (by decide) (by decide)).mono ?_
  rintro e w2 ⟨rfl, O⟩
  have HO2 := Lib.hid O; clear O
  go_wp2_with fail
  refine (HO2.out.big 256 1 (by decide) (by decide) (by decide) (by decide)).mono ?_
  rintro e w3 ⟨rfl, O⟩
  have HO3 := Lib.hid O; clear O
  go_wp2_with fail
  refine (HO3.out.fixed 258 2 (by decide) (by decide) (by decide) (by decide) (by decide)).mono ?_
  rintro e w4 ⟨rfl, O⟩
  have HO4 := Lib.hid O; clear O
  go_wp2_with fail
  refine (HO4.out.text ⟨#[97, 98]⟩ (by decide)).mono ?_
  rintro e w5 ⟨rfl, O⟩
  have HO5 := Lib.hid O; clear O
  go_wp2_with fail
  refine HO5.out.done.mono ?_
  rintro e w6 ⟨rfl, rfl⟩
  rw [lives_put]
  go_wp2_with fail
  refine (ownR_new HO5.out.g livesT (by decide)).mono ?_
  rintro e w7 ⟨rfl, O⟩
  have HR1 := Lib.hid O; clear O
  have HX := Lib.hid HO5.out.x
  clear HO1 HO2 HO3 HO4
  have HS := Lib.hid (show ErrIs se w5 (sv se 2) (some (2, none)) from ⟨by decide, by decide, rfl⟩)
  go_wp2_with fail
  refine HR1.out.var.mono ?_
  rw [lives_1]
  rintro e w8 ⟨rfl, O⟩
  have HR2 := Lib.hid O; clear O
  go_wp2_with fail
  refine (HR2.out.fixed 2).mono ?_
  rw [lives_2]
  rintro e w9 ⟨rfl, O⟩
  have HR3 := Lib.hid O; clear O
  go_wp2_with fail
  refine (HR3.out.text 2 (by decide)).mono ?_
  rw [lives_3]
  rintro e w10 ⟨rfl, O⟩
  have HR4 := Lib.hid O; clear O HR1 HR2 HR3
  dsimp only
  rw [lives_4]
  go_wp2_with fail
  refine (is2_any HR4.out.g (HS.out.ext HR4.out.e) 2).mono ?_
  rintro e w11 ⟨rfl, X⟩
  have HR5 := Lib.hid (HR4.out.ext X); clear X
  rw [lives_8]
  go_wp2_with fail
  refine HR5.out.left.mono ?_
  rw [lives_5]
  rintro e w12 ⟨rfl, O⟩
  have HR6 := Lib.hid O; clear O
  go_wp2_with fail
  refine HR6.out.end.mono ?_
  rw [lives_6]
  rintro e w13 ⟨v, rfl, hv, O⟩
  have HR7 := Lib.hid O; clear O
  have HV := Lib.hid hv; clear hv
  go_wp2_with fail
  refine (at2_any HR7.out.g HV.out 3 7).mono ?_
  rw [lives_7]
  rintro e w14 ⟨rfl, X⟩
  have A := HX.out.thenExt (HR7.out.e.thenExt X)
  clear X
  go_wp2_with fail
  go_ret
  exact ⟨rfl, A⟩
end Go.Proofs.YtkabomkikbdigaaDoor
