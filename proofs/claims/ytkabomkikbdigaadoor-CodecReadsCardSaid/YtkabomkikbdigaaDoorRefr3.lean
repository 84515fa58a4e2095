/- cartularyref02's Reader: Var, Text by contracts. -/
import Derived.Test.YtkabomkikbdigaaDoorRefr2
namespace Go.Proofs.YtkabomkikbdigaaDoor
open Go.RowKit Go.Lib

/-- What Var answers, and how the reader stands behind it. -/
def VarPost (b : Nat) (x : RdD) (w : World) (e : Ending) (w' : World) : Prop := e = .returned (.int .u64 x.var.1) ∧ RefAt w' b x.var.2 ∧ Upd (one b) w w'
theorem rest_cons (x : RdD) (i : Nat) (c : UInt8) (l : List UInt8) (h : x.rest.drop i = c :: l) : x.rest.drop (i + 1) = l := by
  rw [← List.drop_drop, h]; rfl
theorem rest_get (x : RdD) (xl : List UInt8) (hx : x.s = str xl) (i : Nat) (c : UInt8) (l : List UInt8) (h : x.rest.drop i = c :: l) : x.pos + i < xl.length ∧ xl[x.pos + i]? = some c := by
  have h0 : (x.rest.drop i)[0]? = some c := by rw [h]; rfl
  unfold RdD.rest at h0
  rw [List.drop_drop, List.getElem?_drop, Nat.add_zero, hx] at h0
  have h1 : xl[x.pos + i]? = some c := h0
  exact ⟨(List.getElem?_eq_some_iff.1 h1).1, h1⟩
set_option maxRecDepth 8000 in
set_option maxHeartbeats 2000000 in
theorem var_r {w : World} {b : Nat} {x : RdD} (h : RefAt w b x) : Calls Tryd.prog 58 #[.pointer (some ⟨b, 0, none⟩)] w (VarPost b x w) := by
  have C := bad_r h
  have HH := Lib.hid h
  by_cases hf : x.f = none
  · rw [show x.f.isSome = false from by simp [hf]] at C
    obtain ⟨xl, hxl⟩ : ∃ l, x.s = str l := ⟨_, (str_toList x.s).symm⟩
    have hb := h.blk
    have hp := h.pos
    have hz := h.sz
    rw [hxl, str_size] at hp hz
    have HXL := Lib.hid hxl
    have c0 : w.cell? ⟨b, 0, none⟩ = some (.string (str xl)) := by rw [← hxl]; exact cell_of_blk hb 0
    have c1 : w.cell? ⟨b, 1, none⟩ = some (.int .i64 x.pos) := cell_of_blk hb 1
    have f1 := free_of_blk hb 1
    have HF := Lib.hid hf
    have start : numB x.rest = (numGo (10 - 0) (0 == 0) (x.rest.drop 0)).map (fun p => (0 + 2 ^ (7 * 0) * p.1, 0 + p.2)) := by simp [numB]
    have ST := Lib.hid start
    clear h hf hb hxl start
    go_enter Tryd.func58, Tryd.ntmps58
    go_wp2_with fail
    refine C.mono ?_
    rintro e w1 ⟨rfl, rfl⟩
    clear C
    go_wp2_with fail
    go_loopw [3, 4, 5] (fun nv sv iv wr => ∃ (i acc k : Nat), iv = .int .i64 i ∧ nv = .int .u64 acc ∧ sv = .int .u64 ((2 ^ (7 * i) : Nat) : Int) ∧ i ≤ 9 ∧ x.pos + i ≤ xl.length ∧ acc < 2 ^ (7 * i) ∧
      numB x.rest = (numGo (10 - i) (i == 0) (x.rest.drop i)).map (fun p => (acc + 2 ^ (7 * i) * p.1, i + p.2)) ∧ wr = w.drewN k) (fun _ _ iv _ => 10 - (intOf iv).toNat)
    case atStart => exact ⟨0, 0, 0, rfl, rfl, rfl, by omega, hp, by simp, ST.out, rfl⟩
    case round =>
      obtain ⟨i, acc, k, rfl, rfl, rfl, hi, hpi, hacc, hnum, rfl⟩ := hrel
      clear ST
      have hlen : (x.rest.drop i).length = xl.length - (x.pos + i) := by
        have := rest_len x
        rw [HXL.out, str_size] at this
        rw [List.length_drop, this]; omega
      by_cases hlt : x.pos + i < xl.length
      · obtain ⟨c, l, hcl⟩ : ∃ c l, x.rest.drop i = c :: l := by
          cases hr : x.rest.drop i with
          | nil => rw [hr] at hlen; simp at hlen; omega
          | cons c l => exact ⟨c, l, rfl⟩
        obtain ⟨_, hget⟩ := rest_get x xl HXL.out i c l hcl
        have hg2 : xl[x.pos + i] = c := by rw [List.getElem?_eq_getElem hlt] at hget; exact Option.some.inj hget
        have hi10 : (i : Int) < 10 := by omega
        have hlti : (x.pos : Int) + (i : Int) < (xl.length : Int) := by omega
        have hwr : IntKind.i64.wrap ((x.pos : Int) + (i : Int)) = (x.pos : Int) + (i : Int) := IntWalk.i64_in _ (by omega)
        have hnn : (0 : Int) ≤ (x.pos : Int) + (i : Int) := by omega
        have hcb := c.toNat_lt
        have hcw : IntKind.u64.wrap (c.toNat : Int) = (c.toNat : Int) := IntWalk.u64_in _ (by omega)
        obtain ⟨f, hf10⟩ : ∃ f, 10 - i = f + 1 := ⟨9 - i, by omega⟩
        rw [hf10, hcl] at hnum
        have hp7 : i < 9 → 2 ^ (7 * i) ≤ 2 ^ 56 := fun h => Nat.pow_le_pow_right (by omega) (by omega)
        have HI := Lib.hid hi
        by_cases hbad : (f = 0 ∧ 1 < c.toNat) ∨ ((i == 0) = false ∧ c.toNat = 0)
        · have hnone : numB x.rest = none := by rw [hnum]; unfold numGo; rw [if_pos hbad]; rfl
          have hvar : x.var = (0, x.fail (some (3, some (x.pos : Int)))) := by unfold RdD.var RdD.fail; rw [if_pos HF.out, hnone, if_pos HF.out]
          have HV := Lib.hid hvar
          have hb2 : ((((i : Int) == 9) = true ∧ 1 < (c.toNat : Int)) ∨ (((i : Int) == 9) = true ∧ decide (1 < (c.toNat : Int)) = false ∧ ((c.toNat : Int) == 0) = true ∧ 0 < i)) ∨ (((i : Int) == 9) = false ∧ 0 < i ∧ ((c.toNat : Int) == 0) = true) := by
            rcases hbad with ⟨h1, h2⟩ | ⟨h1, h2⟩
            · exact .inl (.inl ⟨by simp; omega, by omega⟩)
            · have h3 : i ≠ 0 := by simpa using h1
              by_cases h9 : i = 9
              · exact .inl (.inr ⟨by simp; omega, by simp; omega, by simp; omega, by omega⟩)
              · exact .inr ⟨by simp; omega, by omega, by simp; omega⟩
          clear hnum hcl hget hlen hbad hnone hvar hp7 hacc hcb
          rcases hb2 with (⟨t1, t2⟩ | ⟨t1, t2, t3, t4⟩) | ⟨t1, t2, t3⟩
          all_goals
            go_wp2_with fail
            go_quiet (fail)
            go_wp2_with fail
            go_quiet (fail)
            go_wp2_with fail
            refine (placed_any 3 x.pos _).mono ?_
            rintro e w2 ⟨rfl, u2⟩
            have X2 := Lib.hid (show Ext w w2 from ((Upd.refl none' w).drewN _).thenExt u2)
            have C2 := fail_r (HH.out.ext X2.out) (some (3, some (x.pos : Int))) (by simp) (fun k p h => by cases h; decide)
            clear u2
            go_wp2_with fail
            refine C2.mono ?_
            rintro e w3 ⟨rfl, R3, u3⟩
            go_wp2_with fail
            go_ret
            exact ⟨by rw [HV.out]; rfl, by rw [HV.out]; exact R3, (Upd.ext X2.out _).trans (u3.mono (fun _ _ h => h))⟩
        · have hgood : numGo (f + 1) (i == 0) (c :: l) = if c.toNat < 128 then some (c.toNat, 1) else (numGo f false l).map fun p => (c.toNat % 128 + 128 * p.1, p.2 + 1) := by
            conv => lhs; unfold numGo
            rw [if_neg hbad]
          rw [hgood] at hnum
          have hc9 : i = 9 → c.toNat ≤ 1 := fun h => by
            rcases Nat.lt_or_ge 1 c.toNat with h1 | h1
            · exact absurd (.inl ⟨by omega, h1⟩) hbad
            · exact h1
          have hc0 : 0 < i → c.toNat ≠ 0 := fun h e => hbad (.inr ⟨by simp; omega, e⟩)
          have hadd : 2 ^ (7 * i) * (c.toNat % 128) + acc < 18446744073709551616 := by
            by_cases h9 : i = 9
            · have := hc9 h9
              have h63 : (2 : Nat) ^ (7 * i) = 9223372036854775808 := by rw [h9]
              rw [h63] at hacc ⊢
              have : c.toNat % 128 ≤ 1 := Nat.le_trans (Nat.mod_le _ _) this
              have := Nat.mul_le_mul_left 9223372036854775808 this
              omega
            · have h56 := hp7 (by omega)
              have : c.toNat % 128 ≤ 127 := by omega
              have := Nat.mul_le_mul h56 this
              have e : (2 : Nat) ^ 56 = 72057594037927936 := by rfl
              rw [e] at this h56
              omega
          have nv1 : IntKind.u64.wrap (2 ^ (7 * i) * ((c.toNat : Int) % 128)) = ((2 ^ (7 * i) * (c.toNat % 128) : Nat) : Int) := by
            rw [show (2 : Int) ^ (7 * i) * ((c.toNat : Int) % 128) = ((2 ^ (7 * i) * (c.toNat % 128) : Nat) : Int) from by rw [Int.natCast_mul, Int.natCast_pow]; rfl]
            exact IntWalk.u64_in _ (by omega)
          have nv : IntKind.u64.wrap ((acc : Int) + IntKind.u64.wrap (2 ^ (7 * i) * ((c.toNat : Int) % 128))) = ((2 ^ (7 * i) * (c.toNat % 128) + acc : Nat) : Int) := by
            rw [nv1, show (acc : Int) + ((2 ^ (7 * i) * (c.toNat % 128) : Nat) : Int) = ((2 ^ (7 * i) * (c.toNat % 128) + acc : Nat) : Int) from by omega]
            exact IntWalk.u64_in _ (by omega)
          have NV := Lib.hid nv
          have tst : (((i : Int) == 9) = true ∧ decide (1 < (c.toNat : Int)) = false ∧ ((c.toNat : Int) == 0) = false ∧ 0 < i) ∨ (((i : Int) == 9) = false ∧ 0 < i ∧ ((c.toNat : Int) == 0) = false) ∨ (((i : Int) == 9) = false ∧ ¬ 0 < i) := by
            by_cases h9 : i = 9
            · have := hc9 h9
              have := hc0 (by omega)
              exact .inl ⟨by simp; omega, by simp; omega, by simp; omega, by omega⟩
            · by_cases h0 : 0 < i
              · have := hc0 h0
                exact .inr (.inl ⟨by simp; omega, h0, by simp; omega⟩)
              · exact .inr (.inr ⟨by simp; omega, h0⟩)
          by_cases h128 : c.toNat < 128
          · have h128i : (c.toNat : Int) < 128 := by omega
            rw [if_pos h128] at hnum
            have hvar : x.var = (2 ^ (7 * i) * (c.toNat % 128) + acc, { x with pos := x.pos + (i + 1) }) := by
              unfold RdD.var
              rw [if_pos HF.out, hnum]
              show (acc + 2 ^ (7 * i) * c.toNat, ({ x with pos := x.pos + (i + 1) } : RdD)) = _
              rw [Nat.mod_eq_of_lt h128, Nat.add_comm]
            have HV := Lib.hid hvar
            have HLT := Lib.hid hlt
            clear hnum hcl hget hlen hbad hgood hvar hp7 hacc hcb hc9 hc0 hadd nv1 nv hlt
            rcases tst with ⟨t1, t2, t3, t4⟩ | ⟨t1, t2, t3⟩ | ⟨t1, t2⟩
            all_goals
              go_wp2_with fail
              go_quiet (fail)
              go_wp2_with fail
              go_quiet (fail)
              go_wp2_with fail
              go_ret
              have B3 : ∀ k, ((w.drewN k).setCell ⟨b, 1, none⟩ (.int .i64 ((x.pos : Int) + i + 1))).heap[b]? = some (.cells #[.string x.s, .int .i64 ((x.pos : Int) + i + 1), .int .i64 (faultC x.f), .int .i64 (faultA x.f)] 66 (0, 0)) := fun k => by
                simpa using blk_set (w := w.drewN k) HH.out.blk 1 (.int .i64 ((x.pos : Int) + i + 1))
              have U3 := fun k => (((Upd.refl (one b) w).drewN k).setCell (p := ⟨b, 1, none⟩) (.inr (show one b b from rfl)) (.int .i64 ((x.pos : Int) + i + 1)))
              refine ⟨by rw [HV.out]; exact congrArg (fun z => Ending.returned (.int .u64 z)) NV.out, ?_, U3 _⟩
              rw [HV.out]
              refine ⟨?_, by show x.pos + (i + 1) ≤ x.s.size; rw [HXL.out, str_size]; have := HLT.out; omega, HH.out.sz, HH.out.code⟩
              rw [B3]
              show some (Obj.cells #[.string x.s, .int .i64 ((x.pos : Int) + i + 1), .int .i64 (faultC x.f), .int .i64 (faultA x.f)] _ _) = some (Obj.cells #[.string x.s, .int .i64 ((x.pos + (i + 1) : Nat) : Int), .int .i64 (faultC x.f), .int .i64 (faultA x.f)] _ _)
              rw [show ((x.pos + (i + 1) : Nat) : Int) = (x.pos : Int) + i + 1 from by omega]
          · have h128i : decide ((c.toNat : Int) < 128) = false := by simp; omega
            rw [if_neg h128] at hnum
            have hi9 : i ≤ 8 := by
              rcases Nat.lt_or_ge i 9 with h | h
              · omega
              · have := hc9 (by omega); omega
            have nv2 : IntKind.u64.wrap (2 ^ (7 * i) * 128) = ((2 ^ (7 * (i + 1)) : Nat) : Int) := by
              have e : (2 : Nat) ^ (7 * (i + 1)) = 2 ^ (7 * i) * 128 := by rw [show 7 * (i + 1) = 7 * i + 7 by omega, Nat.pow_add]
              have h56 := hp7 (by omega)
              have e2 : (2 : Nat) ^ 56 = 72057594037927936 := by rfl
              rw [e2] at h56
              rw [e, show (2 : Int) ^ (7 * i) * 128 = ((2 ^ (7 * i) * 128 : Nat) : Int) from by rw [Int.natCast_mul, Int.natCast_pow]; rfl]
              exact IntWalk.u64_in _ (by omega)
            have hacc2 : 2 ^ (7 * i) * (c.toNat % 128) + acc < 2 ^ (7 * (i + 1)) := by
              rw [show 7 * (i + 1) = 7 * i + 7 by omega, Nat.pow_add]
              have : 2 ^ (7 * i) * (c.toNat % 128) ≤ 2 ^ (7 * i) * 127 := Nat.mul_le_mul_left _ (by omega)
              omega
            have hnum2 : numB x.rest = (numGo (10 - (i + 1)) (i + 1 == 0) (x.rest.drop (i + 1))).map (fun p => (2 ^ (7 * i) * (c.toNat % 128) + acc + 2 ^ (7 * (i + 1)) * p.1, i + 1 + p.2)) := by
              rw [hnum, rest_cons x i c l hcl, show 10 - (i + 1) = f by omega, show (i + 1 == 0) = false from rfl, Option.map_map]
              congr 1
              funext p
              simp only [Function.comp_apply, Prod.mk.injEq]
              refine ⟨?_, by omega⟩
              rw [show 7 * (i + 1) = 7 * i + 7 by omega, Nat.pow_add, Nat.mul_add, show (2 : Nat) ^ 7 = 128 from rfl, Nat.mul_assoc]
              omega
            have HN2 := Lib.hid hnum2
            have HA2 := Lib.hid hacc2
            have NV2 := Lib.hid nv2
            have H9 := Lib.hid hi9
            clear hnum hcl hget hlen hbad hgood hp7 hacc hcb hc9 hc0 hadd nv1 nv hnum2 hacc2 nv2 hi9 h128
            rcases tst with ⟨t1, t2, t3, t4⟩ | ⟨t1, t2, t3⟩ | ⟨t1, t2⟩
            all_goals
              go_wp2_with fail
              go_quiet (fail)
              go_wp2_with fail
              go_quiet (fail)
              go_wp2_with fail
              exact ⟨⟨i + 1, 2 ^ (7 * i) * (c.toNat % 128) + acc, _, by simp, by rw [NV.out], by rw [NV2.out], by have := H9.out; omega, hlt, HA2.out, HN2.out, rfl⟩, by have := H9.out; simp [intOf]; omega⟩
      · have hnone : numB x.rest = none := by
          rw [hnum]
          have : x.rest.drop i = [] := List.eq_nil_of_length_eq_zero (by rw [hlen]; omega)
          rw [this, show 10 - i = (9 - i) + 1 by omega]
          rfl
        have hvar : x.var = (0, x.fail (some (3, some (x.pos : Int)))) := by unfold RdD.var RdD.fail; rw [if_pos HF.out, hnone, if_pos HF.out]
        have HV := Lib.hid hvar
        have hi10 : (i : Int) < 10 := by omega
        have hlti : decide ((x.pos : Int) + (i : Int) < (xl.length : Int)) = false := by simp; omega
        have hwr : IntKind.i64.wrap ((x.pos : Int) + (i : Int)) = (x.pos : Int) + (i : Int) := IntWalk.i64_in _ (by omega)
        clear hnum hlen hnone hvar hacc
        go_wp2_with fail
        go_quiet (fail)
        go_wp2_with fail
        refine (placed_any 3 x.pos _).mono ?_
        rintro e w2 ⟨rfl, u2⟩
        have X2 := Lib.hid (show Ext w w2 from ((Upd.refl none' w).drewN _).thenExt u2)
        have C2 := fail_r (HH.out.ext X2.out) (some (3, some (x.pos : Int))) (by simp) (fun k p h => by cases h; decide)
        clear u2
        go_wp2_with fail
        refine C2.mono ?_
        rintro e w3 ⟨rfl, R3, u3⟩
        go_wp2_with fail
        go_ret
        exact ⟨by rw [HV.out]; rfl, by rw [HV.out]; exact R3, (Upd.ext X2.out _).trans (u3.mono (fun _ _ h => h))⟩
  · rw [show x.f.isSome = true from by cases q : x.f <;> simp_all] at C
    have hvar : x.var = (0, x) := by unfold RdD.var; rw [if_neg hf]
    have HV := Lib.hid hvar
    clear h hf hvar
    go_enter Tryd.func58, Tryd.ntmps58
    go_wp2_with fail
    refine C.mono ?_
    rintro e w1 ⟨rfl, rfl⟩
    go_wp2_with fail
    go_ret
    exact ⟨by rw [HV.out]; rfl, by rw [HV.out]; exact HH.out, Upd.refl _ _⟩
end Go.Proofs.YtkabomkikbdigaaDoor
