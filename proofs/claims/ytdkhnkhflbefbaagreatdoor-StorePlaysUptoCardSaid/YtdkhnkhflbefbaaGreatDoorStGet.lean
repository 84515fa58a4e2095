/- The store by contracts: Get. -/
import Derived.Test.YtdkhnkhflbefbaaGreatDoorStore
import Derived.Test.YtdkhnkhflbefbaaGreatDoorShelf
namespace Go.Proofs.YtdkhnkhflbefbaaGreatDoor
open Go.RowKit Go.Lib

theorem getD_at {zs : List Int} {i : Nat} (h : i < zs.length) : zs.getD i 0 = zs[i] := by simp [List.getD, List.getElem?_eq_getElem h]
theorem mayFrom_sorted : ∀ (l : Int) (zs : List Int), mayFrom l zs = true → (∀ z ∈ zs, l < z) ∧ zs.Pairwise (· < ·)
  | _, [], _ => ⟨fun z h => by (cases h), List.Pairwise.nil⟩
  | l, n :: r, h => by
    unfold mayFrom at h
    split at h
    · cases h
    · rename_i hn
      obtain ⟨h1, h2⟩ := mayFrom_sorted n r h
      refine ⟨fun z hz => ?_, List.Pairwise.cons (fun z hz => h1 z hz) h2⟩
      rcases List.mem_cons.1 hz with rfl | hz
      · omega
      · have := h1 z hz; omega
theorem sorted_lt {zs : List Int} (h : zs.Pairwise (· < ·)) {a b : Nat} (hab : a < b) (hb : b < zs.length) : zs.getD a 0 < zs.getD b 0 := by
  have := List.pairwise_iff_getElem.1 h a b (by omega) hb hab
  rw [getD_at (show a < zs.length by omega), getD_at hb]
  exact this
theorem search_bound (p : Nat → Bool) : ∀ (n : Nat), (∀ a b, a ≤ b → b < n → p a = true → p b = true) → ∃ c, c ≤ n ∧ (∀ t, t < c → p t = false) ∧ ∀ t, c ≤ t → t < n → p t = true
  | 0, _ => ⟨0, Nat.le_refl _, fun t h => by omega, fun t h1 h2 => by omega⟩
  | n + 1, hm => by
    cases hp : p n with
    | false =>
      refine ⟨n + 1, Nat.le_refl _, fun t ht => ?_, fun t h1 h2 => by omega⟩
      cases hq : p t with
      | false => rfl
      | true => have := hm t n (by omega) (by omega) hq; rw [hp] at this; cases this
    | true =>
      obtain ⟨c, h1, h2, h3⟩ := search_bound p n (fun a b hab hb => hm a b hab (by omega))
      refine ⟨c, by omega, h2, fun t ht1 ht2 => ?_⟩
      by_cases e : t = n
      · rw [e, hp]
      · exact h3 t ht1 (by omega)
/-- At which place sort.Search ends. -/
def placeOfRead (zs : List Int) (r : Int) : Nat := (List.range zs.length).countP (fun i => !decide (r ≤ zs.getD i 0))
theorem place_mono {zs : List Int} (h : mayR zs = true) (r : Int) : ∀ a b, a ≤ b → b < zs.length → decide (r ≤ zs.getD a 0) = true → decide (r ≤ zs.getD b 0) = true := fun a b hab hb ha => by
  have ha := of_decide_eq_true ha
  refine decide_eq_true ?_
  by_cases e : a = b
  · subst e; exact ha
  · have := sorted_lt (mayFrom_sorted 0 zs h).2 (show a < b by omega) hb; omega
theorem place_spec {zs : List Int} (h : mayR zs = true) (r : Int) : placeOfRead zs r ≤ zs.length ∧ ((placeOfRead zs r < zs.length ∧ zs.getD (placeOfRead zs r) 0 = r) ↔ r ∈ zs) := by
  obtain ⟨c, h1, h2, h3⟩ := search_bound (fun i => decide (r ≤ zs.getD i 0)) zs.length (place_mono h r)
  have hr : ∀ t, t < zs.length → (List.range zs.length)[t]! = t := fun t ht => by rw [getElem!_pos _ t (by simpa using ht)]; simp
  have e : placeOfRead zs r = c := Lib.countP_boundary _ (List.range zs.length) c (by simpa using h1) (fun t ht => by rw [hr t (by omega), h2 t ht]; rfl) (fun t h4 h5 => by rw [hr t (by simpa using h5), h3 t h4 (by simpa using h5)]; rfl)
  rw [e]
  refine ⟨h1, fun ⟨a, b⟩ => ?_, fun hm => ?_⟩
  · rw [← b, getD_at a]; exact List.getElem_mem a
  · obtain ⟨i, hi, hx⟩ := List.getElem_of_mem hm
    have hg : zs.getD i 0 = r := by rw [getD_at hi]; exact hx
    have hci : c ≤ i := by
      refine Nat.le_of_not_lt fun hlt => ?_
      have := h2 i hlt
      simp only [decide_eq_false_iff_not] at this
      omega
    have hcl : c < zs.length := by omega
    refine ⟨hcl, ?_⟩
    by_cases e2 : c = i
    · rw [e2]; exact hg
    · have h4 := of_decide_eq_true (h3 c (Nat.le_refl _) hcl)
      have h5 := sorted_lt (mayFrom_sorted 0 zs h).2 (show c < i by omega) hi
      omega
theorem rds_of_row {w : World} {tv : Value} {zs : List Int} (h : w.ownsRow 0 3 1 tv zs.length (zs.map (Value.int .i64))) : ∃ ta cap, tv = .slice ta zs.length cap ∧ RdsAt w ta zs := by
  have hc := fun (g : Nat) => h.cells (g := g)
  rcases h.2 with ⟨rfl, h0⟩ | ⟨g, cap, cur, rfl, _, hg, _⟩
  · refine ⟨none, 0, by rw [h0], fun i x hx => ?_⟩
    rw [List.length_eq_zero_iff.1 h0] at hx; cases hx
  · refine ⟨_, cap, rfl, fun i x hx => ⟨g, 0, rfl, ?_⟩⟩
    have hi : i < zs.length := (List.getElem?_eq_some_iff.1 hx).1
    have := hc g rfl i (.int .i64 x) (by rw [List.getElem?_map, hx]; rfl)
    have ea : (⟨g, 0, none⟩ : Addr).add i = ⟨g, 0 + i, none⟩ := by unfold Addr.add; split <;> simp_all
    rw [ea] at this; exact this
theorem enters_get1 : ∀ args w, (callFunc 90 args).run Tryz.prog w = .ok (.enter 90 args) w := enters_of Tryz.func90 (by kernel_rfl) rfl
set_option maxHeartbeats 2000000 in
theorem get1_any {W : World} {n0 n1 b g off n cap i : Nat} {r y : Int} (hl : W.cell? ⟨n1, 0, none⟩ = some (.slice (some ⟨g, off, none⟩) n cap)) (hs : W.cell? ⟨n0, 0, none⟩ = some (.pointer (some ⟨b, 0, none⟩))) (hr : W.cell? ⟨b, 3, none⟩ = some (.int .i64 r))
    (hc : W.cell? ⟨g, off + i, none⟩ = some (.int .i64 y)) (hi : i < n) :
    Calls Tryz.prog 90 #[.int .i64 i, .pointer (some ⟨n1, 0, none⟩), .pointer (some ⟨n0, 0, none⟩)] W fun e w' => e = .returned (.bool (decide (r ≤ y))) ∧ ∃ q, w' = W.drewN q := by
  have hii : (i : Int) < n := by omega
  go_enter Tryz.func90, Tryz.ntmps90
  go_wp2_with fail
  go_quiet (fail)
  go_wp2_with fail
  go_ret
  exact ⟨by simp, _, rfl⟩
end Go.Proofs.YtdkhnkhflbefbaaGreatDoor
