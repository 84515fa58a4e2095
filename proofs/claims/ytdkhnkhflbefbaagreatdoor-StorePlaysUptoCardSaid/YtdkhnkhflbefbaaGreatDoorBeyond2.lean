/- Beyond of two lengths. (As in CutW.) -/
import Derived.Test.YtdkhnkhflbefbaaGreatDoorBase
namespace Go.Proofs.YtdkhnkhflbefbaaGreatDoor
open Go.RowKit Go.Lib


theorem beyond_two (b n m : Nat) (hn : n ≤ 1048576) (w : World) (hb : w.heap[b]? = some (.cells #[.int .i64 n, .int .i64 m] 3 (0, 0))) (hm : m ≤ 9223372036854775807) : Calls Tryz.prog 4 #[.slice (some ⟨b, 0, none⟩) 2 2] w fun e w' => e = .returned (.bool (decide ((1048576 : Int) < wrap64 ((n : Int) + m)))) ∧ w = w' := by
  have c0 := cell_of_blk hb 0
  have c1 := cell_of_blk hb 1
  simp only [List.size_toArray, List.getElem?_toArray, List.getElem?_cons_zero, List.getElem?_cons_succ] at c0 c1
  have hni : ¬ (1048576 : Int) < n := by omega
  have hn0 : wrap64 ((n : Int)) = n := by unfold wrap64; omega
  have HRES : ∀ z, decide ((1048576 : Int) < wrap64 ((n : Int) + m)) = z → ((z = true ∧ (1048576 : Int) < wrap64 ((n : Int) + m)) ∨ (z = false ∧ ¬ (1048576 : Int) < wrap64 ((n : Int) + m))) := fun z hz => by
    subst hz
    by_cases h : (1048576 : Int) < wrap64 ((n : Int) + m) <;> simp [h]
  generalize hz : decide ((1048576 : Int) < wrap64 ((n : Int) + m)) = z at HRES ⊢
  have hc := HRES z rfl
  clear hb HRES hz hm hn
  rcases hc with ⟨rfl, hd⟩ | ⟨rfl, hd⟩
  all_goals
    go_enter Tryz.func4, Tryz.ntmps4
    go_wp2
    go_loopw [3, 4] (fun tv iv wr => ∃ j : Nat, j ≤ 2 ∧ iv = .int .i64 j ∧ tv = .int .i64 (if j = 0 then 0 else if j = 1 then n else wrap64 ((n : Int) + m)) ∧ w = wr ∧ (j = 2 → ¬ (1048576 : Int) < wrap64 ((n : Int) + m))) (fun _ iv _ => 2 - (RowKit.intOf iv).toNat)
    case atStart => exact ⟨0, by omega, rfl, by simp, rfl, fun h => by omega⟩
    case round =>
      obtain ⟨j, hj, rfl, rfl, rfl, hj2⟩ := hrel
      rcases (show j = 0 ∨ j = 1 ∨ j = 2 by omega) with rfl | rfl | rfl
      · simp only [if_pos]
        clear hj2
        go_wp2
        refine ⟨⟨1, by omega, by simp, by simp, by first | rfl | trivial, fun h => by omega⟩, by simp [RowKit.intOf]⟩
      · simp only [if_neg (show ¬ (1 : Nat) = 0 by omega), if_pos]
        clear hj2
        go_wp2
        first
        | (go_ret; exact ⟨rfl, rfl⟩)
        | (refine ⟨⟨2, by omega, by simp, by simp, by first | rfl | trivial, fun _ => by omega⟩, by simp [RowKit.intOf]⟩)
      · have hd2 := hj2 rfl
        first
        | exact absurd hd hd2
        | (simp only [if_neg (show ¬ (2 : Nat) = 0 by omega), if_neg (show ¬ (2 : Nat) = 1 by omega)]
           clear hj2 hd2
           go_wp2
           go_ret
           exact ⟨rfl, rfl⟩)
end Go.Proofs.YtdkhnkhflbefbaaGreatDoor
