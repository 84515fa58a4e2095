/- The statements' put of an idle writer; form: by contracts. -/
import Derived.Test.YtkabomkikbdigaaDoorThing
namespace Go.Proofs.YtkabomkikbdigaaDoor
open Go.RowKit Go.Lib

/-- What put answers of no writer. -/
def idleE (x : ThingD) : EV := if x.kind % 4 = 0 then some (1, none) else none
set_option maxRecDepth 8000 in
set_option maxHeartbeats 1000000 in
theorem putT_idle {B : Nat} {p : Value} {w : World} {se : Nat → Addr} (G : Genv B se w) (h : Idle p w) (x : ThingD) (hx : x.Ok) (ht : x.t.size ≤ 1048576) :
    Calls Tryd.prog 17 #[p, .agg (thingCells x).toArray] w fun e w' => ∃ v, e = .returned v ∧ ErrIs se w' v (idleE x) ∧ Ext w w' := by
  have X := (Upd.refl none' w).alloc (.cells (thingCells x).toArray 36)
  have hb := blk_alloc w (.cells (thingCells x).toArray 36)
  obtain ⟨c0, c1, c2, c3, c4, c5⟩ := thing_cells hb
  have hI := h.ext X
  have GW := G.ext X
  have HX := Lib.hid X
  have R := round_any x.kind (w.alloc (.cells (thingCells x).toArray 36)) hx.kind1 hx.kind2
  have hsz : (thingCells x).toArray.size = 37 := by rw [List.size_toArray]; exact thingCells_len x hx.h
  have hp : ∃ a, p = .pointer a := by rcases h with rfl | ⟨b, rfl, _⟩ <;> exact ⟨_, rfl⟩
  obtain ⟨a, rfl⟩ := hp
  rcases kinds x with hk | hk | hk | hk
  · have C := wfixed_idle hI (.int .u64 x.n) (.int .i64 x.wd) GW
    have ee : idleE x = some (1, none) := by simp [idleE, hk]
    rw [ee]
    rw [hk] at R
    clear hk h G X hb hI GW hx ee c5
    go_enter Tryd.func17, Tryd.ntmps17
    go_wp2_with fail
    refine R.mono ?_
    rintro e w1 ⟨rfl, rfl⟩
    go_wp2_with fail
    refine C.mono ?_
    rintro e w2 ⟨rfl, rfl⟩
    go_wp2_with fail
    go_ret
    exact ⟨_, rfl, ⟨by omega, by omega, rfl⟩, HX.out⟩
  · have C := wvar_idle hI x.n hx.n
    have ee : idleE x = none := by simp [idleE, hk]
    rw [ee]
    rw [hk] at R
    clear hk h G X hb hI GW hx ee c5
    go_enter Tryd.func17, Tryd.ntmps17
    go_wp2_with fail
    refine R.mono ?_
    rintro e w1 ⟨rfl, rfl⟩
    go_wp2_with fail
    refine C.mono ?_
    rintro e w2 ⟨rfl, hU⟩
    have A := HX.out.trans (hU.mono (fun _ _ h => h))
    clear hU
    go_wp2_with fail
    go_ret
    exact ⟨_, rfl, rfl, A⟩
  · have C := wtext_idle hI x.t (by omega)
    have ee : idleE x = none := by simp [idleE, hk]
    rw [ee]
    rw [hk] at R
    clear hk h G X hb hI GW hx ee c5
    go_enter Tryd.func17, Tryd.ntmps17
    go_wp2_with fail
    refine R.mono ?_
    rintro e w1 ⟨rfl, rfl⟩
    go_wp2_with fail
    refine C.mono ?_
    rintro e w2 ⟨rfl, hU⟩
    have A := HX.out.trans (hU.mono (fun _ _ h => h))
    clear hU
    go_wp2_with fail
    go_ret
    exact ⟨_, rfl, rfl, A⟩
  · have C := whash_idle hI (x.h.map u8v).toArray (by simp [hx.h])
    have ee : idleE x = none := by simp [idleE, hk]
    rw [ee]
    rw [hk] at R
    have HS : Hid ((Tryd.prog.info? 34).map (·.size) = some (x.h.map u8v).length) := by rw [List.length_map, hx.h]; exact hash_size
    clear hk h G X hb hI GW hx ee
    go_enter Tryd.func17, Tryd.ntmps17
    go_wp2_with fail
    refine R.mono ?_
    rintro e w1 ⟨rfl, rfl⟩
    go_wp2_with (refine wpList_loadAgg rfl 34 _ rfl _ 5 rfl (x.h.map u8v) Tryd.underlying34 rfl HS.out c5 ?_)
    refine C.mono ?_
    rintro e w2 ⟨rfl, hU⟩
    have A := HX.out.trans (hU.mono (fun _ _ h => h))
    clear hU
    go_wp2_with fail
    go_ret
    exact ⟨_, rfl, rfl, A⟩

/-- An error as the references have it. -/
def faultC : EV → Int
  | none => 0
  | some (k, _) => k
def faultA : EV → Int
  | none => 0
  | some (_, none) => -1
  | some (_, some n) => n
abbrev faultV (x : EV) : Value := .agg #[.int .i64 (faultC x), .int .i64 (faultA x)]
theorem rfixed_any (x : ThingD) (hx : x.Ok) (hk : x.kind % 4 = 0) (w : World) : Calls Tryd.prog 41 #[.int .u64 x.n, .int .i64 x.wd] w fun e w' => e = .returned (.tuple #[.string (str (formB x)), faultV (formE x)]) ∧ Ext w w' := by
  by_cases hb : 1 ≤ x.wd ∧ x.wd ≤ 8
  · obtain ⟨k, hkk⟩ : ∃ k : Nat, x.wd = k := ⟨x.wd.toNat, by omega⟩
    by_cases hn : x.n / 2 ^ (8 * k) = 0
    · have hf : fits x = true := by simp [fits, hkk, hn]; omega
      have e1 : formB x = fixB k x.n := by simp [formB, hk, hf, hkk]
      have e2 : formE x = none := by simp [formE, hf]
      rw [e1, e2, hkk]
      exact rfixed_ok x.n k hx.n (by omega) (by omega) w hn
    · have hf : fits x = false := by simp [fits, hkk, hn]
      have e1 : formB x = [] := by simp [formB, hk, hf]
      have e2 : formE x = some (2, none) := by simp [formE, hf, hk]
      rw [e1, e2, hkk]
      exact rfixed_big x.n k hx.n (by omega) (by omega) w hn
  · have hf : fits x = false := by simp [fits]; omega
    have e1 : formB x = [] := by simp [formB, hk, hf]
    have e2 : formE x = some (2, none) := by simp [formE, hf, hk]
    rw [e1, e2]
    exact rfixed_bad x.n x.wd (by omega) w

set_option maxRecDepth 8000 in
set_option maxHeartbeats 1000000 in
theorem form_any (x : ThingD) (hx : x.Ok) (ht : x.t.size ≤ 1048576) (w : World) : Calls Tryd.prog 15 #[.agg (thingCells x).toArray] w fun e w' => e = .returned (.tuple #[.string (str (formB x)), faultV (formE x)]) ∧ Ext w w' := by
  have X := ((Upd.refl none' w).alloc (.cells (thingCells x).toArray 36)).alloc (.cells #[.int .i64 0, .int .i64 0] 39)
  have hb := blk_alloc_lt (blk_alloc w (.cells (thingCells x).toArray 36)) (.cells #[.int .i64 0, .int .i64 0] 39)
  have hf := blk_alloc (w.alloc (.cells (thingCells x).toArray 36)) (.cells #[.int .i64 0, .int .i64 0] 39)
  rw [World.size_alloc] at hf
  obtain ⟨c0, c1, c2, c3, c4, c5⟩ := thing_cells hb
  have HX := Lib.hid X
  have HF := Lib.hid hf
  have R := round_any x.kind ((w.alloc (.cells (thingCells x).toArray 36)).alloc (.cells #[.int .i64 0, .int .i64 0] 39)) hx.kind1 hx.kind2
  have hsz : (thingCells x).toArray.size = 37 := by rw [List.size_toArray]; exact thingCells_len x hx.h
  rcases kinds x with hk | hk | hk | hk
  · have C := rfixed_any x hx hk ((w.alloc (.cells (thingCells x).toArray 36)).alloc (.cells #[.int .i64 0, .int .i64 0] 39))
    generalize formB x = fb at *
    generalize formE x = fe at *
    rw [hk] at R
    clear hk X hb hx hf c5
    go_enter Tryd.func15, Tryd.ntmps15
    go_wp2_with fail
    refine R.mono ?_
    rintro e w1 ⟨rfl, rfl⟩
    go_wp2_with fail
    refine C.mono ?_
    rintro e w2 ⟨rfl, hU⟩
    have hf := Ext.blk hU HF.out
    have k0 := cell_of_blk hf 0
    have k1 := cell_of_blk hf 1
    have f0 := free_of_blk hf 0
    have f1 := free_of_blk hf 1
    have A := ((HX.out.trans (hU.mono (fun _ _ h => h))).setCell (p := ⟨w.heap.size + 1, 0, none⟩) (.inl (Nat.le_succ _)) (.int .i64 (faultC fe))).setCell (p := ⟨w.heap.size + 1, 1, none⟩) (.inl (Nat.le_succ _)) (.int .i64 (faultA fe))
    have HA := Lib.hid A
    clear hU hf A
    go_wp2_with fail
    exact bodyPost_ret (v := .tuple #[.string (str fb), faultV fe]) (by simp [results, Tryd.results15, go_sem, k0, k1]) rfl ⟨rfl, HA.out⟩
  · have C := rvar_any x.n hx.n ((w.alloc (.cells (thingCells x).toArray 36)).alloc (.cells #[.int .i64 0, .int .i64 0] 39))
    have ef : formB x = varB x.n := by simp [formB, hk]
    have ee : formE x = none := by simp [formE, hk]
    rw [ee, ef]
    rw [hk] at R
    clear hk X hb hx hf c5 ef ee
    go_enter Tryd.func15, Tryd.ntmps15
    go_wp2_with fail
    refine R.mono ?_
    rintro e w1 ⟨rfl, rfl⟩
    go_wp2_with fail
    refine C.mono ?_
    rintro e w2 ⟨rfl, hU⟩
    have hf := Ext.blk hU HF.out
    have k0 := cell_of_blk hf 0
    have k1 := cell_of_blk hf 1
    have f0 := free_of_blk hf 0
    have f1 := free_of_blk hf 1
    have A := ((HX.out.trans (hU.mono (fun _ _ h => h))).setCell (p := ⟨w.heap.size + 1, 0, none⟩) (.inl (Nat.le_succ _)) (.int .i64 0)).setCell (p := ⟨w.heap.size + 1, 1, none⟩) (.inl (Nat.le_succ _)) (.int .i64 0)
    have HA := Lib.hid A
    clear hU hf A
    go_wp2_with fail
    exact bodyPost_ret (v := .tuple #[.string (str (varB x.n)), .agg #[.int .i64 0, .int .i64 0]]) (by simp [results, Tryd.results15, go_sem, k0, k1]) rfl ⟨rfl, HA.out⟩
  · have C := rtext_any x.t (by omega) ((w.alloc (.cells (thingCells x).toArray 36)).alloc (.cells #[.int .i64 0, .int .i64 0] 39))
    have ef : formB x = varB x.t.size ++ x.t.data.toList := by simp [formB, hk]
    have ee : formE x = none := by simp [formE, hk]
    rw [ee, ef]
    rw [hk] at R
    clear hk X hb hx hf c5 ef ee
    go_enter Tryd.func15, Tryd.ntmps15
    go_wp2_with fail
    refine R.mono ?_
    rintro e w1 ⟨rfl, rfl⟩
    go_wp2_with fail
    refine C.mono ?_
    rintro e w2 ⟨rfl, hU⟩
    have hf := Ext.blk hU HF.out
    have k0 := cell_of_blk hf 0
    have k1 := cell_of_blk hf 1
    have f0 := free_of_blk hf 0
    have f1 := free_of_blk hf 1
    have A := ((HX.out.trans (hU.mono (fun _ _ h => h))).setCell (p := ⟨w.heap.size + 1, 0, none⟩) (.inl (Nat.le_succ _)) (.int .i64 0)).setCell (p := ⟨w.heap.size + 1, 1, none⟩) (.inl (Nat.le_succ _)) (.int .i64 0)
    have HA := Lib.hid A
    clear hU hf A
    go_wp2_with fail
    exact bodyPost_ret (v := .tuple #[.string (str (varB x.t.size ++ x.t.data.toList)), .agg #[.int .i64 0, .int .i64 0]]) (by simp [results, Tryd.results15, go_sem, k0, k1]) rfl ⟨rfl, HA.out⟩
  · have C := rhash_any x.h hx.h ((w.alloc (.cells (thingCells x).toArray 36)).alloc (.cells #[.int .i64 0, .int .i64 0] 39))
    have ef : formB x = x.h := by simp [formB, hk]
    have ee : formE x = none := by simp [formE, hk]
    rw [ee, ef]
    have HS : Hid ((Tryd.prog.info? 34).map (·.size) = some (x.h.map u8v).length) := by rw [List.length_map, hx.h]; exact hash_size
    rw [hk] at R
    clear hk X hb hx hf ef ee
    go_enter Tryd.func15, Tryd.ntmps15
    go_wp2_with fail
    refine R.mono ?_
    rintro e w1 ⟨rfl, rfl⟩
    go_wp2_with (refine wpList_loadAgg rfl 34 _ rfl _ 5 rfl (x.h.map u8v) Tryd.underlying34 rfl HS.out c5 ?_)
    refine C.mono ?_
    rintro e w2 ⟨rfl, hU⟩
    have hf := Ext.blk hU HF.out
    have k0 := cell_of_blk hf 0
    have k1 := cell_of_blk hf 1
    have f0 := free_of_blk hf 0
    have f1 := free_of_blk hf 1
    have A := ((HX.out.trans (hU.mono (fun _ _ h => h))).setCell (p := ⟨w.heap.size + 1, 0, none⟩) (.inl (Nat.le_succ _)) (.int .i64 0)).setCell (p := ⟨w.heap.size + 1, 1, none⟩) (.inl (Nat.le_succ _)) (.int .i64 0)
    have HA := Lib.hid A
    clear hU hf A
    go_wp2_with fail
    exact bodyPost_ret (v := .tuple #[.string (str (x.h)), .agg #[.int .i64 0, .int .i64 0]]) (by simp [results, Tryd.results15, go_sem, k0, k1]) rfl ⟨rfl, HA.out⟩
end Go.Proofs.YtkabomkikbdigaaDoor
