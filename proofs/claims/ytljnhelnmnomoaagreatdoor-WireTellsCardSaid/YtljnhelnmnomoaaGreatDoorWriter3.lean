/- codec.Writer: Text, Hash, Fixed, Done by contracts. -/
import Derived.Test.YtljnhelnmnomoaaGreatDoorBytes
namespace Go.Proofs.YtljnhelnmnomoaaGreatDoor
open Go.RowKit Go.Lib

theorem Writer.stored {B b : Nat} {w w1 : World} {S : Nat → Prop} {xs ys : List UInt8} {v v' : Value} (h : Writer B w S b xs)
    (hb : w.heap[b]? = some (.cells #[v, .bool true] 127 (0, 0))) (hne : v.ownBlock ≠ some b) (hS : ∀ k, v.ownBlock = some k → S k)
    (hown' : w1.ownsRow B 5 1 v' ys.length (ys.map u8v)) (hg : w.grownBy w1 v.ownBlock) (hbl : v'.ownBlock = v.ownBlock ∨ v'.ownBlock = some w.heap.size) (hB : B ≤ w.heap.size) :
    Writer B (w1.setCell ⟨b, 0, none⟩ v') (plus S w.heap.size (w1.setCell ⟨b, 0, none⟩ v').heap.size) b ys ∧ Upd S w (w1.setCell ⟨b, 0, none⟩ v') := by
  have hlt := lt_of_blk hb
  have hb1 : w1.heap[b]? = some (.cells #[v, .bool true] 127 (0, 0)) := by
    rw [hg.block b hlt (fun e => hne e.symm)]; exact hb
  have hU : Upd S w w1 := (Upd.refl S w).grown hg (fun k hk => .inr (hS k hk))
  have hsz : (w1.setCell ⟨b, 0, none⟩ v').heap.size = w1.heap.size := by simp [World.setCell]
  have hne' : v'.ownBlock ≠ some b ∧ ∀ k, v'.ownBlock = some k → plus S w.heap.size w1.heap.size k := by
    have hlt' := fun k hk => (hown'.lt k hk).2
    rcases hbl with e | e
    · exact ⟨by rw [e]; exact hne, fun k hk => .inl (hS k (by rw [← e]; exact hk))⟩
    · refine ⟨by rw [e]; simp; omega, fun k hk => .inr ⟨?_, hlt' k hk⟩⟩
      rw [e] at hk; cases hk; exact Nat.le_refl _
  rw [hsz]
  refine ⟨⟨⟨v', ?_, ?_, hne'.1, hne'.2⟩, .inl h.mem, ?_, ?_⟩, hU.setCell (.inr h.mem) _⟩
  · simpa using blk_set hb1 0 v'
  · exact ownsRow_upd hown' ((Upd.refl (one b) w1).setCell (p := ⟨b, 0, none⟩) (.inr rfl) v') (fun g hg e => hne'.1 (by rw [hg, e]))
  · rintro k (hk | hk); · exact h.low k hk
    omega
  · intro k hk
    rw [hsz]
    rcases hk with hk | hk
    · exact Nat.lt_of_lt_of_le (h.lt k hk) hU.size
    · exact hk.2

set_option maxHeartbeats 1000000 in
theorem wtext_ok {B b : Nat} {w : World} {S : Nat → Prop} {xs : List UInt8} (h : Writer B w S b xs) (s : ByteArray) (hB : B ≤ w.heap.size) (hl : xs.length + 10 + s.size ≤ 1099511627776) :
    Calls Tryz.prog 30 #[.pointer (some ⟨b, 0, none⟩), .string s] w fun e w' =>
      e = .returned (.tuple #[]) ∧ Writer B w' (plus S w.heap.size w'.heap.size) b (xs ++ (varB s.size ++ s.data.toList)) ∧ Upd S w w' := by
  have C := wvar_ok h s.size (by omega) hB (by omega)
  obtain ⟨i0, hi, hz0, hz1, hz2⟩ := info_parts info_u8
  have HH := Lib.hid h
  have hsm : s.size ≤ 9223372036854775807 := by omega
  have HL := Lib.hid hl
  clear h hl
  go_enter Tryz.func30, Tryz.ntmps30
  go_wp2_with fail
  refine C.mono ?_
  rintro e w1 ⟨rfl, hW, hU⟩
  obtain ⟨v, hb, hown, hne, hS⟩ := hW.ex
  have h0 : w1.cell? ⟨b, 0, none⟩ = some v := cell_of_blk hb 0
  have h1 : w1.cell? ⟨b, 1, none⟩ = some (.bool true) := cell_of_blk hb 1
  have hv10 := varN_len 10 s.size
  have hB1 : B ≤ w1.heap.size := Nat.le_trans hB hU.size
  have hlen : (xs ++ varB s.size).length + s.size ≤ 1099511627776 := by have := HL.out; simp only [List.length_append, varB]; omega
  have HO := Lib.hid hown
  have HB := Lib.hid hb
  have HN := Lib.hid hne
  have HS := Lib.hid hS
  have HW := Lib.hid hW
  have HU := Lib.hid hU
  clear hown hb hne hS hW hU C
  go_wp2_with (at_builtin; refine wpList_appStr rfl _ _ 93 9 rfl B 5 i0 Tryz.underlying93 Tryz.underlying9 hi hz0 hz1 hz2 v (xs ++ varB s.size).length _ rfl HO.out s rfl ?c1 ?c2 hB1 ?_)
  case c1 => unfold maxLen; omega
  case c2 => omega
  intro v' w2 hown' hg hbl
  have hown2 : w2.ownsRow B 5 1 v' (xs ++ varB s.size ++ s.data.toList).length ((xs ++ varB s.size ++ s.data.toList).map u8v) := by
    have e1 : (xs ++ varB s.size ++ s.data.toList).length = xs.length + (varB s.size).length + s.size := by rw [List.length_append, List.length_append, Array.length_toList]; rfl
    have e2 : (xs ++ varB s.size ++ s.data.toList).map u8v = xs.map u8v ++ ((varB s.size).map u8v ++ strCells s) := by rw [List.append_assoc, List.map_append, List.map_append]; rfl
    rw [e1, e2]; exact hown'
  have fin := HW.out.stored HB.out HN.out HS.out hown2 hg hbl hB1
  have fin' := Lib.hid (HH.out.again hB HU.out fin.1 fin.2)
  have hb1 : w2.heap[b]? = some (.cells #[v, .bool true] 127 (0, 0)) := by
    rw [hg.block b (lt_of_blk HB.out) (fun e => HN.out e.symm)]; exact HB.out
  have k0 : w2.cell? ⟨b, 0, none⟩ = some v := cell_of_blk hb1 0
  have k1 : w2.frozen? ⟨b, 0, none⟩ = false := free_of_blk hb1 0
  have form := own_form hown'
  clear hown' hown2 hg hbl fin hb1 h0 h1
  rcases form with ⟨rfl, _⟩ | ⟨g, cap, rfl, _⟩
  all_goals
    go_wp2
    go_end0
    rw [← List.append_assoc]
    exact ⟨rfl, fin'.out⟩

theorem wdone_ok {B b : Nat} {w : World} {S : Nat → Prop} {xs : List UInt8} (h : Writer B w S b xs) :
    Calls Tryz.prog 113 #[.pointer (some ⟨b, 0, none⟩)] w fun e w' => e = .returned (.string (str xs)) ∧ w = w' := by
  obtain ⟨v, hb, hown, hne, hS⟩ := h.ex
  have h0 : w.cell? ⟨b, 0, none⟩ = some v := cell_of_blk hb 0
  have hs := run_str_own w hown
  clear h hb hne hS hown
  go_enter Tryz.func113, Tryz.ntmps113
  go_wp2
  go_ret
  exact ⟨rfl, rfl⟩
theorem wdone_none (w : World) : Calls Tryz.prog 113 #[.pointer none] w fun e w' => e = .returned (.string ⟨#[]⟩) ∧ w = w' := by
  go_enter Tryz.func113, Tryz.ntmps113
  go_wp2
  go_ret
  exact ⟨rfl, rfl⟩
theorem wdone_un (b : Nat) (w : World) (h : w.cell? ⟨b, 0, none⟩ = some (.slice none 0 0)) : Calls Tryz.prog 113 #[.pointer (some ⟨b, 0, none⟩)] w fun e w' => e = .returned (.string ⟨#[]⟩) ∧ w = w' := by
  have hs := run_convert_bytes_nil (P := Tryz.prog) w 93 5 Tryz.underlying93 Tryz.underlying5 0 0 9 Tryz.underlying9
  go_enter Tryz.func113, Tryz.ntmps113
  go_wp2
  go_ret
  exact ⟨rfl, rfl⟩
/-- A row of cells behind an address holds these bytes. -/
theorem cells_at {w : World} {g : Nat} {cs : List Value} {t : TypeId} (h : w.heap[g]? = some (.cells cs.toArray t (0, 0))) (j : Nat) (u : Value) (hu : cs[j]? = some u) : w.cell? ((⟨g, 0, none⟩ : Addr).add j) = some u := by
  rw [show (⟨g, 0, none⟩ : Addr).add j = ⟨g, j, none⟩ from by unfold Addr.add; split <;> simp_all, cell_of_blk h]
  simpa using hu
theorem whash_ok {B b : Nat} {w : World} {S : Nat → Prop} {xs : List UInt8} (h : Writer B w S b xs) (hs : List UInt8) (hl : hs.length = 32) (hB : B ≤ w.heap.size) (hn : xs.length + 32 ≤ 1099511627776) :
    Calls Tryz.prog 118 #[.pointer (some ⟨b, 0, none⟩), .agg (hs.map u8v).toArray] w fun e w' =>
      e = .returned (.tuple #[]) ∧ Writer B w' (plus S w.heap.size w'.heap.size) b (xs ++ hs) ∧ Upd S w w' := by
  have X := (Upd.refl none' w).alloc (.cells (hs.map u8v).toArray 120)
  have hW := h.upd X (fun _ _ hk => hk)
  have C := put_ok hW ⟨w.heap.size, 0, none⟩ hs 32 (Nat.le_trans hB X.size) (fun j u hu => cells_at (blk_alloc w _) j u hu) (by omega)
  rw [hl] at C
  clear hl
  go_enter Tryz.func118, Tryz.ntmps118
  go_wp2_with fail
  refine C.mono ?_
  rintro e w' ⟨rfl, h1, h2⟩
  go_wp2
  go_end0
  exact ⟨rfl, h1.weaken (fun k hk => hk.imp id (fun hk => ⟨by simp at hk; omega, hk.2⟩)) (fun k hk => ⟨hk.elim (h.low k) (fun hk => by omega), hk.elim (fun hk => Nat.lt_of_lt_of_le (h.lt k hk) (Nat.le_trans X.size h2.size)) (fun hk => hk.2)⟩), (Upd.ext X S).then h2 (fun _ _ hk => hk)⟩
theorem whash_none (_v : Value) (cs : Array Value) (w : World) : Calls Tryz.prog 118 #[.pointer none, .agg cs] w fun e w' => e = .returned (.tuple #[]) ∧ Ext w w' := by
  go_enter Tryz.func118, Tryz.ntmps118
  go_wp2_with (go_at_call 112; refine (put_none _ _).mono ?_; rintro e w' ⟨rfl, rfl⟩)
  go_end0
  exact ⟨rfl, (Upd.refl _ _).alloc _⟩
/-- A number in so many bytes, the highest first. -/
def fixB : Nat → Nat → List UInt8
  | 0, _ => []
  | k + 1, n => (n / 2 ^ (8 * k) % 256).toUInt8 :: fixB k n
theorem fixB_len (k n : Nat) : (fixB k n).length = k := by
  induction k with
  | zero => rfl
  | succ k ih => simp [fixB, ih]
theorem wfixed_nil (v u : Value) (w : World) {B : Nat} {se : Nat → Addr} (G : Genv B se w) : Calls Tryz.prog 26 #[.pointer none, v, u] w fun e w' => e = .returned (sv se 1) ∧ w = w' := by
  have c1 := G.cell 1 (by decide) (by decide)
  simp only [gno] at c1
  clear G
  go_enter Tryz.func26, Tryz.ntmps26
  go_wp2
  go_ret
  exact ⟨rfl, rfl⟩
theorem wfixed_un (v u : Value) (b : Nat) (w : World) {B : Nat} {se : Nat → Addr} (G : Genv B se w) (h : w.cell? ⟨b, 1, none⟩ = some (.bool false)) : Calls Tryz.prog 26 #[.pointer (some ⟨b, 0, none⟩), v, u] w fun e w' => e = .returned (sv se 1) ∧ w = w' := by
  have c1 := G.cell 1 (by decide) (by decide)
  simp only [gno] at c1
  clear G
  go_enter Tryz.func26, Tryz.ntmps26
  go_wp2
  go_ret
  exact ⟨rfl, rfl⟩
theorem wfixed_bad (n : Nat) (k : Int) (b : Nat) (w : World) {B : Nat} {se : Nat → Addr} (G : Genv B se w) (h : w.cell? ⟨b, 1, none⟩ = some (.bool true)) (hk : k < 1 ∨ 8 < k) :
    Calls Tryz.prog 26 #[.pointer (some ⟨b, 0, none⟩), .int .u64 n, .int .i64 k] w fun e w' => e = .returned (sv se 2) ∧ w = w' := by
  have c1 := G.cell 2 (by decide) (by decide)
  simp only [gno] at c1
  clear G
  by_cases h1 : k < 1
  · have d1 : decide (k < 1) = true := by simpa using h1
    clear hk
    go_enter Tryz.func26, Tryz.ntmps26
    go_wp2
    go_ret
    exact ⟨rfl, rfl⟩
  · have d1 : decide (k < 1) = false := by simpa using h1
    have h2 : 8 < k := by omega
    have d2 : decide (8 < k) = true := by simpa using h2
    clear hk
    go_enter Tryz.func26, Tryz.ntmps26
    go_wp2
    go_ret
    exact ⟨rfl, rfl⟩
theorem wfixed_big (n k : Nat) (b : Nat) (w : World) {B : Nat} {se : Nat → Addr} (G : Genv B se w) (h : w.cell? ⟨b, 1, none⟩ = some (.bool true)) (hk : 1 ≤ k) (hk2 : k < 8) (hn : n / 2 ^ (8 * k) ≠ 0) (_hn2 : n < 18446744073709551616) :
    Calls Tryz.prog 26 #[.pointer (some ⟨b, 0, none⟩), .int .u64 n, .int .i64 k] w fun e w' => e = .returned (sv se 2) ∧ w = w' := by
  have c1 := G.cell 2 (by decide) (by decide)
  simp only [gno] at c1
  have d1 : decide ((k : Int) < 1) = false := by simp; omega
  have d2 : decide (8 < (k : Int)) = false := by simp; omega
  have d3 : ((n : Int) / 2 ^ (8 * k) != 0) = true := by rw [bne_iff_ne]; intro e; exact hn (by exact_mod_cast e)
  clear G hn
  go_enter Tryz.func26, Tryz.ntmps26
  go_wp2
  go_ret
  exact ⟨rfl, rfl⟩
set_option maxHeartbeats 1000000 in
theorem wfixed_ok {B b : Nat} {w : World} {S : Nat → Prop} {xs : List UInt8} (h : Writer B w S b xs) (n k : Nat) (_hn2 : n < 18446744073709551616) (hk : 1 ≤ k) (hk2 : k ≤ 8) (hn : k < 8 → n / 2 ^ (8 * k) = 0) (hB : B ≤ w.heap.size) (hl : xs.length + 8 ≤ 1099511627776) :
    Calls Tryz.prog 26 #[.pointer (some ⟨b, 0, none⟩), .int .u64 n, .int .i64 k] w fun e w' => e = .returned .nilIface ∧ Writer B w' (plus S w.heap.size w'.heap.size) b (xs ++ fixB k n) ∧ Upd S w w' := by
  have h1 : w.cell? ⟨b, 1, none⟩ = some (.bool true) := by obtain ⟨v, hb, _⟩ := h.ex; exact cell_of_blk hb 1
  have d1 : decide ((k : Int) < 1) = false := by simp; omega
  have d2 : decide (8 < (k : Int)) = false := by simp; omega
  have hs0 : Writer B w (plus S w.heap.size w.heap.size) b (xs ++ []) := by
    simpa using h.weaken (S' := plus S w.heap.size w.heap.size) (fun k hk => .inl hk) (fun k hk => ⟨hk.elim (h.low k) (fun hk => by omega), hk.elim (h.lt k) (fun hk => by omega)⟩)
  have HS0 := Lib.hid hs0
  have HH := Lib.hid h
  have HL := Lib.hid hl
  have dd : (decide ((k : Int) < 8) = true ∧ ((n : Int) / 2 ^ (8 * k) != 0) = false) ∨ decide ((k : Int) < 8) = false := by
    by_cases hc : k < 8
    · exact .inl ⟨by simp; omega, by have := hn hc; simp; exact_mod_cast this⟩
    · exact .inr (by simp; omega)
  clear hs0 h hn hl
  rcases dd with ⟨d3, d4⟩ | d3
  all_goals
    go_enter Tryz.func26, Tryz.ntmps26
    go_wp2_with fail
    go_loopw [7] (fun iv wr => ∃ (z : Int) (j : Nat) (ys : List UInt8), iv = .int .i64 z ∧ z = j - 1 ∧ j ≤ k ∧ ys ++ fixB j n = fixB k n ∧ ys.length + j = k ∧ Writer B wr (plus S w.heap.size wr.heap.size) b (xs ++ ys) ∧ Upd S w wr) (fun iv _ => (intOf iv + 1).toNat)
    case atStart => exact ⟨_, k, [], rfl, rfl, Nat.le_refl _, rfl, by simp, HS0.out, Upd.refl _ _⟩
    case round =>
      obtain ⟨z, j, ys, rfl, hz, hj, he, hy, hw, hu⟩ := hrel
      clear h1
      by_cases hj0 : j = 0
      · subst hj0
        obtain rfl : z = -1 := by omega
        have hx : fixB k n = ys := by rw [← he]; simp [fixB]
        have HX := Lib.hid hx
        have HW := Lib.hid hw
        have HU := Lib.hid hu
        clear hx hw hu he hy hz
        go_wp2_with fail
        go_ret
        exact ⟨rfl, by rw [HX.out]; exact HW.out, HU.out⟩
      · obtain ⟨g, rfl⟩ : ∃ g, j = g + 1 := ⟨j - 1, by omega⟩
        obtain rfl : z = g := by omega
        have hc : (n : Int) / 2 ^ (8 * g) % 256 = ((n / 2 ^ (8 * g) % 256 : Nat) : Int) := Eq.trans (by rw [Int.natCast_emod, Int.natCast_ediv, Int.natCast_pow]; rfl) rfl
        have C := put1 hw ((n : Int) / 2 ^ (8 * g) % 256) (Int.emod_nonneg _ (by decide)) (by have := Int.emod_lt_of_pos ((n : Int) / 2 ^ (8 * g)) (b := 256) (by decide); omega) (Nat.le_trans hB hu.size) (by have := HL.out; rw [List.length_append]; omega)
        have HC := Lib.hid hc
        clear hc
        have hx : (ys ++ [(n / 2 ^ (8 * g) % 256).toUInt8]) ++ fixB g n = fixB k n := by rw [← he]; simp [fixB]
        have HX := Lib.hid hx
        have HU := Lib.hid hu
        have HY := Lib.hid hy
        clear hx hw hu he hy hz
        go_wp2_with fail
        refine C.mono ?_
        rintro e w' ⟨rfl, hW, hU⟩
        have A := HH.out.again hB HU.out hW hU
        rw [HC.out, Int.toNat_natCast, List.append_assoc] at A
        have HA := Lib.hid A
        clear A hW hU C
        go_wp2_with fail
        refine ⟨⟨(g : Int) - 1, g, _, rfl, rfl, by omega, HX.out, by have := HY.out; simp; omega, HA.out.1, HA.out.2⟩, by simp [intOf]; try omega⟩
end Go.Proofs.YtljnhelnmnomoaaGreatDoor
