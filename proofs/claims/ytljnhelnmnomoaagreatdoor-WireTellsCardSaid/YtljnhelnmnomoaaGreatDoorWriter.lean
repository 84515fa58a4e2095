/- codec.Writer: its calls by contracts. A writer's footprint S: the blocks that it may write. codec.Writer: Var, Text, Hash, Fixed, Done by contracts. -/
import Derived.Test.YtljnhelnmnomoaaGreatDoorCode
namespace Go.Proofs.YtljnhelnmnomoaaGreatDoor
open Go.RowKit Go.Lib


abbrev u8v (c : UInt8) : Value := .int .u8 (c.toNat : Int)
theorem info_u8 : (Tryz.prog.info? 5).map (fun i => (i.zero, i.size, i.bytes)) = some (some (.int .u8 0), 1, 1) := by kernel_rfl
/-- The writer at block b has the bytes xs; its blocks are in S, from B on. -/
structure Writer (B : Nat) (w : World) (S : Nat → Prop) (b : Nat) (xs : List UInt8) : Prop where
  ex : ∃ v, w.heap[b]? = some (.cells #[v, .bool true] 127 (0, 0)) ∧ w.ownsRow B 5 1 v xs.length (xs.map u8v) ∧ v.ownBlock ≠ some b ∧ ∀ k, v.ownBlock = some k → S k
  mem : S b
  low : ∀ k, S k → B ≤ k
  lt : ∀ k, S k → k < w.heap.size
theorem ownsRow_upd {w w' : World} {T : Nat → Prop} {B e size n : Nat} {v : Value} {xs : List Value} (h : w.ownsRow B e size v n xs) (k : Upd T w w') (hT : ∀ g, v.ownBlock = some g → ¬ T g) : w'.ownsRow B e size v n xs := by
  refine ⟨h.1, ?_⟩
  rcases h.2 with hn | ⟨g, cap, cur, rfl, hb, hgg, rest⟩
  · exact .inl hn
  · exact .inr ⟨g, cap, cur, rfl, hb, k.blk hgg (hT g rfl), rest⟩
theorem Writer.upd {B b : Nat} {w w' : World} {S T : Nat → Prop} {xs : List UInt8} (h : Writer B w S b xs) (k : Upd T w w') (hT : ∀ g, S g → ¬ T g) : Writer B w' S b xs where
  ex := by
    obtain ⟨v, h1, h2, h3, h4⟩ := h.ex
    exact ⟨v, k.blk h1 (hT b h.mem), ownsRow_upd h2 k (fun g hg => hT g (h4 g hg)), h3, h4⟩
  mem := h.mem
  low := h.low
  lt g hg := Nat.lt_of_lt_of_le (h.lt g hg) k.size
theorem Writer.weaken {B b : Nat} {w : World} {S S' : Nat → Prop} {xs : List UInt8} (h : Writer B w S b xs) (h1 : ∀ k, S k → S' k) (h2 : ∀ k, S' k → B ≤ k ∧ k < w.heap.size) : Writer B w S' b xs where
  ex := by obtain ⟨v, a, c, d, f⟩ := h.ex; exact ⟨v, a, c, d, fun k hk => h1 k (f k hk)⟩
  mem := h1 b h.mem
  low k hk := (h2 k hk).1
  lt k hk := (h2 k hk).2
/-- S and what is new. -/
def plus (S : Nat → Prop) (n m : Nat) : Nat → Prop := fun k => S k ∨ (n ≤ k ∧ k < m)
/-- A value that an owned row has: a slice written out. -/
theorem own_form {w : World} {B e size n : Nat} {v : Value} {xs : List Value} (h : w.ownsRow B e size v n xs) : (v = .slice none 0 0 ∧ n = 0) ∨ ∃ g cap, v = .slice (some ⟨g, 0, none⟩) n cap ∧ B ≤ g := by
  rcases h.2 with h | ⟨g, cap, cur, h1, h2, _⟩
  · exact .inl h
  · exact .inr ⟨g, cap, h1, h2⟩

theorem put_ok {B b : Nat} {w : World} {S : Nat → Prop} {xs : List UInt8} (h : Writer B w S b xs) (ad : Addr) (ps : List UInt8) (c : Nat) (hB : B ≤ w.heap.size)
    (hc : ∀ j u, (ps.map u8v)[j]? = some u → w.cell? (ad.add j) = some u) (hn : xs.length + ps.length ≤ 1099511627776) :
    Calls Tryz.prog 112 #[.pointer (some ⟨b, 0, none⟩), .slice (some ad) ps.length c] w fun e w' =>
      e = .returned (.tuple #[]) ∧ Writer B w' (plus S w.heap.size w'.heap.size) b (xs ++ ps) ∧ Upd S w w' := by
  obtain ⟨v, hb, hown, hne, hS⟩ := h.ex
  obtain ⟨i0, hi, hz0, hz1, hz2⟩ := info_parts info_u8
  have h0 : w.cell? ⟨b, 0, none⟩ = some v := cell_of_blk hb 0
  have h1 : w.cell? ⟨b, 1, none⟩ = some (.bool true) := cell_of_blk hb 1
  have hlt := lt_of_blk hb
  have hlen : xs.length + ps.length ≤ maxLen := by unfold maxLen; omega
  have HH := Lib.hid h
  have HO := Lib.hid hown
  have HB := Lib.hid hb
  have HN := Lib.hid hne
  have HS := Lib.hid hS
  clear h hown hb hne hS
  go_enter Tryz.func112, Tryz.ntmps112
  go_wp2_with (at_builtin; refine wpList_app rfl _ _ 93 rfl B 5 i0 (.int .u8 0) 1 1 Tryz.underlying93 hi hz0 hz1 hz2 rfl (by decide) v xs.length _ rfl HO.out ad ps.length c (ps.map u8v) rfl ?c1 ?c2 ?c3 ?c4 ?c5 ?c6 ?_)
  case c1 => simp
  case c2 => exact hc
  case c3 => intro u hu; obtain ⟨x, _, rfl⟩ := List.mem_map.1 hu; rfl
  case c4 => exact hlen
  case c5 => omega
  case c6 => exact hB
  intro v' w1 hown' hg hbl
  have hb1 : w1.heap[b]? = some (.cells #[v, .bool true] 127 (0, 0)) := by
    rw [hg.block b hlt (fun e => HN.out e.symm)]; exact HB.out
  have k0 : w1.cell? ⟨b, 0, none⟩ = some v := cell_of_blk hb1 0
  have k1 : w1.frozen? ⟨b, 0, none⟩ = false := free_of_blk hb1 0
  have hU : Upd S w w1 := (Upd.refl S w).grown hg (fun k hk => .inr (HS.out k hk))
  have hne' : v'.ownBlock ≠ some b ∧ ∀ k, v'.ownBlock = some k → plus S w.heap.size w1.heap.size k := by
    have hlt' := fun k hk => (hown'.lt k hk).2
    rcases hbl with e | e
    · exact ⟨by rw [e]; exact HN.out, fun k hk => .inl (HS.out k (by rw [← e]; exact hk))⟩
    · refine ⟨by rw [e]; simp; omega, fun k hk => .inr ⟨?_, hlt' k hk⟩⟩
      rw [e] at hk; cases hk; exact Nat.le_refl _
  have fin : Writer B (w1.setCell ⟨b, 0, none⟩ v') (plus S w.heap.size w1.heap.size) b (xs ++ ps) ∧ Upd S w (w1.setCell ⟨b, 0, none⟩ v') := by
    refine ⟨⟨⟨v', ?_, ?_, hne'.1, hne'.2⟩, .inl HH.out.mem, ?_, ?_⟩, hU.setCell (.inr HH.out.mem) _⟩
    · simpa using blk_set hb1 0 v'
    · have := ownsRow_upd hown' ((Upd.refl (one b) w1).setCell (p := ⟨b, 0, none⟩) (.inr rfl) v') (fun g hg e => hne'.1 (by rw [hg, e]))
      simpa using this
    · rintro k (hk | hk); · exact HH.out.low k hk
      omega
    · intro k hk
      have : (w1.setCell ⟨b, 0, none⟩ v').heap.size = w1.heap.size := by simp [World.setCell]
      rw [this]
      rcases hk with hk | hk
      · exact Nat.lt_of_lt_of_le (HH.out.lt k hk) hU.size
      · exact hk.2
  have fin' := Lib.hid fin
  have form := own_form hown'
  clear hown' hb1 hg hbl hne' hU fin
  have hsz : (w1.setCell ⟨b, 0, none⟩ v').heap.size = w1.heap.size := by simp [World.setCell]
  have HZ := Lib.hid hsz
  clear hsz
  rcases form with ⟨rfl, _⟩ | ⟨g, cap, rfl, _⟩
  all_goals
    go_wp2
    go_end0
    exact ⟨rfl, by rw [HZ.out]; exact fin'.out.1, fin'.out.2⟩

theorem put_none (v : Value) (w : World) : Calls Tryz.prog 112 #[.pointer none, v] w fun e w' => e = .returned (.tuple #[]) ∧ w = w' := by
  go_enter Tryz.func112, Tryz.ntmps112
  go_wp2
  go_end0
  exact ⟨rfl, rfl⟩
theorem put_un (v : Value) (b : Nat) (w : World) (h : w.cell? ⟨b, 1, none⟩ = some (.bool false)) : Calls Tryz.prog 112 #[.pointer (some ⟨b, 0, none⟩), v] w fun e w' => e = .returned (.tuple #[]) ∧ w = w' := by
  go_enter Tryz.func112, Tryz.ntmps112
  go_wp2
  go_end0
  exact ⟨rfl, rfl⟩

/-- A number in as few bytes as it wants, at most f of them. -/
def varN : Nat → Nat → List UInt8
  | 0, _ => []
  | f + 1, n => if n ≤ 127 then [n.toUInt8] else (n % 128 + 128).toUInt8 :: varN f (n / 128)
def varB (n : Nat) : List UInt8 := varN 10 n
theorem varN_len (f n : Nat) : (varN f n).length ≤ f := by
  induction f generalizing n with
  | zero => simp [varN]
  | succ f ih => unfold varN; split; · simp
                 have := ih (n / 128); simp; omega

theorem put1 {B b : Nat} {w : World} {S : Nat → Prop} {xs : List UInt8} (h : Writer B w S b xs) (x : Int) (hx : 0 ≤ x) (hx2 : x ≤ 255) (hB : B ≤ w.heap.size) (hn : xs.length + 1 ≤ 1099511627776) :
    Calls Tryz.prog 112 #[.pointer (some ⟨b, 0, none⟩), .slice (some ⟨w.heap.size, 0, none⟩) 1 1] (w.alloc (.cells #[.int .u8 x] 5)) fun e w' =>
      e = .returned (.tuple #[]) ∧ Writer B w' (plus S w.heap.size w'.heap.size) b (xs ++ [x.toNat.toUInt8]) ∧ Upd S w w' := by
  have X := (Upd.refl none' w).alloc (.cells #[.int .u8 x] 5)
  have hW := h.upd X (fun _ _ hk => hk)
  have e1 : (x.toNat.toUInt8.toNat : Int) = x := by simp; omega
  refine (put_ok hW ⟨w.heap.size, 0, none⟩ [x.toNat.toUInt8] 1 (Nat.le_trans hB X.size) ?_ (by simpa using hn)).mono ?_
  · intro j u hu
    match j, hu with
    | 0, hu => simp at hu; subst hu; simp [Addr.add]; omega
    | j + 1, hu => simp at hu
  · rintro e w' ⟨rfl, h1, h2⟩
    refine ⟨rfl, ?_, (Upd.ext X S).then h2 (fun _ _ hk => hk)⟩
    exact h1.weaken (fun k hk => hk.imp id (fun hk => ⟨by simp at hk; omega, hk.2⟩)) (fun k hk => ⟨hk.elim (h.low k) (fun hk => by omega), hk.elim (fun hk => Nat.lt_of_lt_of_le (h.lt k hk) (Nat.le_trans X.size h2.size)) (fun hk => hk.2)⟩)

theorem or128 (x : Nat) (h : x < 256) : bits .or .u8 x 128 = ((x % 128 + 128 : Nat) : Int) := by
  have : ∀ y : Fin 256, bits .or .u8 (y.val : Int) 128 = ((y.val % 128 + 128 : Nat) : Int) := by decide +kernel
  exact this ⟨x, h⟩
theorem plus_plus {S : Nat → Prop} {a b c : Nat} (hb : a ≤ b) (hc : b ≤ c) (k : Nat) (h : plus (plus S a b) b c k) : plus S a c k := by
  rcases h with (h | h) | h
  · exact .inl h
  · exact .inr ⟨h.1, by omega⟩
  · exact .inr ⟨by omega, h.2⟩
/-- Two calls, one behind the other. -/
theorem Writer.again {B b : Nat} {w w1 w2 : World} {S : Nat → Prop} {xs ys : List UInt8} (h : Writer B w S b xs) (hB : B ≤ w.heap.size) (u1 : Upd S w w1) (h2 : Writer B w2 (plus (plus S w.heap.size w1.heap.size) w1.heap.size w2.heap.size) b ys) (u2 : Upd (plus S w.heap.size w1.heap.size) w1 w2) :
    Writer B w2 (plus S w.heap.size w2.heap.size) b ys ∧ Upd S w w2 :=
  ⟨h2.weaken (fun k hk => plus_plus u1.size u2.size k hk) (fun k hk => ⟨hk.elim (h.low k) (fun hk => by omega), hk.elim (fun hk => Nat.lt_of_lt_of_le (h.lt k hk) (Nat.le_trans u1.size u2.size)) (fun hk => hk.2)⟩),
   u1.then u2 (fun k hk hp => hp.elim id (fun hp => by omega))⟩

set_option maxHeartbeats 1000000 in
theorem wvar_ok {B b : Nat} {w : World} {S : Nat → Prop} {xs : List UInt8} (h : Writer B w S b xs) (n : Nat) (hn : n < 18446744073709551616) (hB : B ≤ w.heap.size) (hl : xs.length + 10 ≤ 1099511627776) :
    Calls Tryz.prog 28 #[.pointer (some ⟨b, 0, none⟩), .int .u64 n] w fun e w' =>
      e = .returned (.tuple #[]) ∧ Writer B w' (plus S w.heap.size w'.heap.size) b (xs ++ varB n) ∧ Upd S w w' := by
  have HH := Lib.hid h
  have hs0 : Writer B w (plus S w.heap.size w.heap.size) b (xs ++ []) := by
    simpa using h.weaken (S' := plus S w.heap.size w.heap.size) (fun k hk => .inl hk) (fun k hk => ⟨hk.elim (h.low k) (fun hk => by omega), hk.elim (h.lt k) (fun hk => by omega)⟩)
  have HS0 := Lib.hid hs0
  clear h hs0
  go_enter Tryz.func28, Tryz.ntmps28
  go_wp2
  go_loopw [1] (fun nv wr => ∃ (f m : Nat) (ys : List UInt8), nv = .int .u64 m ∧ (1 ≤ f ∧ m < 2 * 128 ^ (f - 1)) ∧ m < 18446744073709551616 ∧ ys.length + f = 10 ∧ varB n = ys ++ varN f m ∧ Writer B wr (plus S w.heap.size wr.heap.size) b (xs ++ ys) ∧ Upd S w wr) (fun nv _ => (intOf nv).toNat)
  case atStart => exact ⟨10, n, [], rfl, ⟨by omega, by simpa using hn⟩, hn, rfl, rfl, HS0.out, Upd.refl _ _⟩
  case round =>
    obtain ⟨f, m, ys, rfl, ⟨hf1, hm1⟩, hm, hf, hv, hw, hu⟩ := hrel
    obtain ⟨f, rfl⟩ : ∃ g, f = g + 1 := ⟨f - 1, by omega⟩
    simp only [Nat.add_sub_cancel] at hm1
    have hBr : B ≤ wr.heap.size := Nat.le_trans hB hu.size
    have HV := Lib.hid hv
    have HU := Lib.hid hu
    by_cases hlt : m ≤ 127
    · have C := put1 hw (m : Int) (by omega) (by omega) hBr (by simp; omega)
      have hx : varB n = ys ++ [m.toUInt8] := by rw [hv]; unfold varN; rw [if_pos hlt]
      have HX := Lib.hid hx
      have HW0 := Lib.hid hw
      clear hv hw hu hf hm1 hx
      go_wp2_with (go_at_call 112; refine C.mono ?_; rintro e w' ⟨rfl, hW, hU⟩)
      go_end0
      rw [HX.out, ← List.append_assoc]
      exact ⟨rfl, HH.out.again hB HU.out (by simpa using hW) hU⟩
    · have C := put1 hw ((m % 128 + 128 : Nat) : Int) (by omega) (by omega) hBr (by simp; omega)
      have hb : bits .or .u8 ((m : Int) % 256) 128 = ((m % 128 + 128 : Nat) : Int) := by
        rw [show (m : Int) % 256 = ((m % 256 : Nat) : Int) from by omega, or128 _ (by omega)]; omega
      obtain ⟨g, rfl⟩ : ∃ g, f = g + 1 := ⟨f - 1, by cases f with
        | zero => simp at hm1; omega
        | succ g => omega⟩
      have hx : varB n = (ys ++ [(m % 128 + 128).toUInt8]) ++ varN (g + 1) (m / 128) := by rw [hv]; conv => lhs; unfold varN; rw [if_neg hlt]
                                                                                           simp
      have hm2 : m / 128 < 2 * 128 ^ g := by rw [Nat.pow_succ] at hm1; omega
      have HX := Lib.hid hx
      have HM := Lib.hid hm2
      have HF := Lib.hid hf
      clear hv hw hu hf hm1 hx hm2
      go_wp2_with (go_at_call 112; refine C.mono ?_; rintro e w' ⟨rfl, hW, hU⟩)
      have A := HH.out.again hB HU.out hW hU
      refine ⟨⟨g + 1, m / 128, ys ++ [(m % 128 + 128).toUInt8], by simp, ⟨by omega, HM.out⟩, by omega, by have := HF.out; simp; omega, HX.out, (by have := A.1; rwa [Int.toNat_natCast, List.append_assoc] at this), A.2⟩, by simp [intOf]; omega⟩
end Go.Proofs.YtljnhelnmnomoaaGreatDoor
