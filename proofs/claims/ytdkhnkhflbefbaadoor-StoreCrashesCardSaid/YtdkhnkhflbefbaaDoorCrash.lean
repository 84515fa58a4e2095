/- The walk of StoreCrashes. -/
import Derived.Test.YtdkhnkhflbefbaaDoorCrPlain
import Derived.Test.YtdkhnkhflbefbaaDoorNamed2
import Derived.StillTailTactics
namespace Go.Proofs.YtdkhnkhflbefbaaDoor
open Go.RowKit Go.Lib Go.Sort

def NamesOk (ws : TxtL) (k : Nat) : Prop := ∀ i, i < k → ∀ p, ws[i]? = some p → nameOk p.1 = true
theorem NamesOk.zero (ws : TxtL) : NamesOk ws 0 := fun i h => by omega
theorem NamesOk.succ {ws : TxtL} {k : Nat} (h : NamesOk ws k) {p : ByteArray × ByteArray} (hp : ws[k]? = some p) (hn : nameOk p.1 = true) : NamesOk ws (k + 1) := fun i hi q hq => by
  by_cases e : i = k
  · subst e; rw [hp] at hq; obtain rfl := Option.some.inj hq; exact hn
  · exact h i (by omega) q hq
def calmSt (L : TxtL) (k : Nat) : StD := ⟨L, [], 0, k, 0, false⟩
/-- The loop of the writes. -/
def CrRel (ws : TxtL) (c : Int) (b mb : Nat) (tv : Value) (w : World) (kv iv : Value) (wr : World) : Prop :=
  ∃ (k : Nat) (x : StD), kv = .int .i64 (keptN c k : Nat) ∧ iv = .int .i64 k ∧ k ≤ ws.length ∧ CrS ws c k x ∧ StAt wr b mb tv x ∧ NamesOk ws k ∧ Ext w wr
def CalmRel (L : TxtL) (n : Nat) (b mb : Nat) (tv : Value) (w : World) (iv : Value) (wr : World) : Prop :=
  ∃ k : Nat, iv = .int .i64 k ∧ k ≤ n ∧ StAt wr b mb tv (calmSt L k) ∧ Ext w wr
theorem cr_get (L : TxtL) (k : Nat) {s : ByteArray} (hn : nameOk s = true) (r : Option ByteArray) (hr : lookL L s = r) : (calmSt L k).get s = (calmSt L (k + 1), r.getD ⟨#[]⟩, if r.isSome then none else some (6, none)) := by
  rw [get_calm rfl rfl hn]
  show (_, (lookL L s).getD _, if (lookL L s).isSome then none else _) = _
  rw [hr]; rfl
set_option maxRecDepth 8000 in
set_option maxHeartbeats 16000000 in
theorem crashes_any {B : Nat} {se : Nat → Addr} {w : World} (G : Genv B se w) {a : Option Addr} {ws : TxtL} (h : WrsAt w a ws) (hp : ∀ x ∈ ws, x.1.size ≤ maxLen ∧ x.2.size ≤ maxLen) (cap : Nat) (c : Int) (hc : -9223372036854775808 ≤ c ∧ c ≤ 9223372036854775807) :
    Calls Tryd.prog 4 #[.slice a ws.length cap, .int .i64 c] w fun e w' => e = .returned (.bool true) ∧ Ext w w' := by
  have HG := Lib.hid G
  have HH := Lib.hid h
  have HP := Lib.hid hp
  clear h hp G
  by_cases hl : 200 < ws.length
  · have hli : (200 : Int) < ws.length := by omega
    have C := alive12_any HG.out
    go_enter Tryd.func4, Tryd.ntmps4
    go_wp2_with fail
    refine C.mono ?_
    rintro e w2 ⟨rfl, u⟩
    go_wp2_with fail
    go_ret
    exact ⟨rfl, u⟩
  have hli : ¬ (200 : Int) < ws.length := by omega
  have HL := Lib.hid (show ws.length ≤ 200 by omega)
  have HC := Lib.hid hc
  have CN := new_ok w none [] 0 c (RdsAt.nil _ _) (by decide) rfl
  clear hl hc
  by_cases hneg : c < 0
  · have HA := Lib.hid (show crAt c = wrap64 (-c) from by
      have := HC.out
      unfold crAt wrap64
      rw [if_pos hneg]
      split <;> omega)
    go_enter Tryd.func4, Tryd.ntmps4
    go_wp2_with fail
    refine CN.mono ?_
    rintro e w1 ⟨b, mb, tv, rfl, h, hb, hm, u⟩
    have HST := Lib.hid h
    have HBB := Lib.hid (show B ≤ b ∧ B ≤ mb ∧ w.heap.size ≤ b ∧ w.heap.size ≤ mb from by have := HG.out.size; omega)
    have HU := Lib.hid u
    clear h hb hm u CN
    go_wp2_with fail
    generalize wrap64 (-c) = A at HA ⊢
    go_loopw [8, 9] (fun kv iv wr => CrRel ws c b mb tv w kv iv wr) (fun _ iv _ => ws.length - (RowKit.intOf iv).toNat)
    case atStart => exact ⟨0, _, by rw [kept_out c 0 (by omega)]; rfl, rfl, Nat.zero_le _, cr_start ws c, HST.out, NamesOk.zero ws, HU.out⟩
    case round =>
      clear HST HU
      obtain ⟨k, x, rfl, rfl, hk, hcr, hst, hnm, hX⟩ := hrel
      have HK := Lib.hid hk
      have HCR := Lib.hid hcr
      have HST := Lib.hid hst
      have HNM := Lib.hid hnm
      have HX := Lib.hid hX
      have HM := Lib.hid (kept_le c k)
      obtain ⟨m, hm⟩ : ∃ m, keptN c k = m := ⟨_, rfl⟩
      rw [hm] at HM ⊢
      have HMK := Lib.hid hm
      clear hcr hst hnm hX hm
      by_cases hlt : k < ws.length
      · have hki : (k : Int) < ws.length := by omega
        have hk200 : k < 200 := by have := HL.out; omega
        have hm200 : m < 200 := by have := HM.out; omega
        obtain ⟨g, off, rfl, c0, c1⟩ := HH.out.ext HX.out k _ (List.getElem?_eq_getElem hlt)
        have HAT := Lib.hid (List.getElem?_eq_getElem hlt)
        have HPP := Lib.hid (HP.out ws[k] (List.getElem_mem hlt))
        have HD : Hid (1 ≤ crAt c → crAt c ≤ k → nameOk ws[k].1 = true → CrS ws c (k + 1) (x.put ws[k].1 ws[k].2).1 ∧ (x.put ws[k].1 ws[k].2).2 = some (8, none)) := Lib.hid (fun h1 h2 hn => cr_dead HCR.out h1 h2 hn)
        have HI : Hid (crAt c = (k : Int) + 1 → nameOk ws[k].1 = true → CrS ws c (k + 1) (x.put ws[k].1 ws[k].2).1 ∧ (x.put ws[k].1 ws[k].2).2 = some (8, none)) := Lib.hid (fun h1 hn => cr_hit HCR.out hk200 hlt h1 hn)
        have HO : Hid (¬ (1 ≤ crAt c ∧ crAt c ≤ (k : Int) + 1) → nameOk ws[k].1 = true → CrS ws c (k + 1) (x.put ws[k].1 ws[k].2).1 ∧ (x.put ws[k].1 ws[k].2).2 = none ∧ keptN c k = k ∧ keptN c (k + 1) = k + 1) := Lib.hid (fun h1 hn => cr_on HCR.out hk200 hlt h1 hn)
        have CM := may12_any ws[k].1 HPP.out.1 wr
        have HNW := Lib.hid (show x.nw < 4611686018427387904 by have := HCR.out.nwle; omega)
        have HTL := Lib.hid (show x.texts.length < 4611686018427387904 by rw [HCR.out.texts]; have := putN_len ws (keptN c k); have := kept_le c k; omega)
        generalize ws[k] = p at *
        by_cases hn : nameOk p.1 = true
        · rw [hn] at CM
          have HN := Lib.hid hn
          clear hn
          go_wp2_with fail
          refine CM.mono ?_
          rintro e w2 ⟨rfl, rfl⟩
          clear CM
          go_wp2_with fail
          go_still_tail 11, (by kernel_rfl)
          have ED : Ext wr wr.drew := (Upd.refl none' wr).drew
          have CP := put_any (HG.out.ext (HX.out.trans ED)) (HST.out.ext ED) HBB.out.1 HBB.out.2.1 p.1 p.2 HPP.out.1 HPP.out.2 HNW.out HTL.out
          have HED := Lib.hid (HX.out.trans ED)
          obtain ⟨r, hr⟩ : ∃ r, x.put p.1 p.2 = r := ⟨_, rfl⟩
          rw [hr] at CP HD HI HO
          clear hr ED
          obtain ⟨x', ev⟩ := r
          by_cases hA1 : 1 ≤ A ∧ A ≤ (k : Int) + 1
          · obtain ⟨h1, h2⟩ := hA1
            by_cases hA2 : A = (k : Int) + 1
            · have HE := Lib.hid (show crAt c = (k : Int) + 1 by rw [HA.out]; exact hA2)
              have hb : ((k : Int) + 1 == A) = true := by rw [hA2]; simp
              have HMV := Lib.hid (show m = k by rw [← HMK.out]; exact kept_out c k (by have := HE.out; omega))
              clear hA2
              obtain ⟨hcr2, rfl⟩ : CrS ws c (k + 1) x' ∧ ev = some (8, none) := ⟨(HI.out HE.out HN.out).1, (HI.out HE.out HN.out).2⟩
              have hd : x'.dead = true := by rw [hcr2.dead]; exact decide_eq_true ⟨by have := HE.out; omega, by have := HE.out; omega⟩
              have HCR2 := Lib.hid hcr2
              have HDD := Lib.hid hd
              clear hcr2 hd HD HI HO
              go_wp2_with fail
              refine CP.mono ?_
              rintro e w3 ⟨he, hst3, u3⟩
              simp only [evS] at he
              subst he
              have HX3 := Lib.hid (HED.out.then u3 (fun q hq e => by have := HBB.out; rcases e with e | e <;> omega))
              have HST3 := Lib.hid hst3
              clear hst3 u3 CP
              have CI := is0_any (HG.out.ext HX3.out) (v := sv se 8) (x := some (8, none)) ⟨by decide, by decide, rfl⟩ 8
              rw [show (codeOf (some (8, none)) == 8 && (!placed (some (8, none)) || placeOf (some (8, none)) == 0)) = true from rfl] at CI
              go_wp2_with fail
              refine CI.mono ?_
              rintro e w4 ⟨rfl, u4⟩
              have HX4 := Lib.hid (HX3.out.trans u4)
              have HST4 := Lib.hid (HST3.out.ext u4)
              clear u4 CI HX3 HST3
              have CD := dead_any HST4.out
              rw [HDD.out] at CD
              go_wp2_with fail
              refine CD.mono ?_
              rintro e w5 ⟨rfl, u5⟩
              have HX5 := Lib.hid (HX4.out.trans u5)
              have HST5 := Lib.hid (HST4.out.ext u5)
              clear u5 CD
              go_wp2_with fail
              go_roundw
              case rel => (exact ⟨k + 1, x', by rw [kept_neg c k HE.out hneg, HMV.out]; simp, by simp, by omega, HCR2.out, HST5.out, NamesOk.succ HNM.out HAT.out HN.out, HX5.out⟩)
              case measure => simp [RowKit.intOf] <;> omega
            · have HE := Lib.hid (show 1 ≤ crAt c ∧ crAt c ≤ k by rw [HA.out]; omega)
              have hb : ((k : Int) + 1 == A) = false := by simp; omega
              clear hA2
              obtain ⟨hcr2, rfl⟩ : CrS ws c (k + 1) x' ∧ ev = some (8, none) := ⟨(HD.out HE.out.1 HE.out.2 HN.out).1, (HD.out HE.out.1 HE.out.2 HN.out).2⟩
              have hd : x'.dead = true := by rw [hcr2.dead]; exact decide_eq_true ⟨by have := HE.out; omega, by have := HE.out; omega⟩
              have HCR2 := Lib.hid hcr2
              have HDD := Lib.hid hd
              clear hcr2 hd HD HI HO
              go_wp2_with fail
              refine CP.mono ?_
              rintro e w3 ⟨he, hst3, u3⟩
              simp only [evS] at he
              subst he
              have HX3 := Lib.hid (HED.out.then u3 (fun q hq e => by have := HBB.out; rcases e with e | e <;> omega))
              have HST3 := Lib.hid hst3
              clear hst3 u3 CP
              have CI := is0_any (HG.out.ext HX3.out) (v := sv se 8) (x := some (8, none)) ⟨by decide, by decide, rfl⟩ 8
              rw [show (codeOf (some (8, none)) == 8 && (!placed (some (8, none)) || placeOf (some (8, none)) == 0)) = true from rfl] at CI
              go_wp2_with fail
              refine CI.mono ?_
              rintro e w4 ⟨rfl, u4⟩
              have HX4 := Lib.hid (HX3.out.trans u4)
              have HST4 := Lib.hid (HST3.out.ext u4)
              clear u4 CI HX3 HST3
              have CD := dead_any HST4.out
              rw [HDD.out] at CD
              go_wp2_with fail
              refine CD.mono ?_
              rintro e w5 ⟨rfl, u5⟩
              have HX5 := Lib.hid (HX4.out.trans u5)
              have HST5 := Lib.hid (HST4.out.ext u5)
              clear u5 CD
              go_wp2_with fail
              go_roundw
              case rel => (exact ⟨k + 1, x', by rw [kept_in c k HE.out.1 HE.out.2, HMK.out], by simp, by omega, HCR2.out, HST5.out, NamesOk.succ HNM.out HAT.out HN.out, HX5.out⟩)
              case measure => simp [RowKit.intOf] <;> omega
          · by_cases hp1 : 1 ≤ A
            · have HE := Lib.hid (show ¬ (1 ≤ crAt c ∧ crAt c ≤ (k : Int) + 1) by rw [HA.out]; exact hA1)
              have h2 : ¬ A ≤ (k : Int) + 1 := by omega
              have HMV := Lib.hid (HO.out HE.out HN.out).2.2
              clear hA1
              obtain ⟨hcr2, rfl⟩ : CrS ws c (k + 1) x' ∧ ev = none := ⟨(HO.out HE.out HN.out).1, (HO.out HE.out HN.out).2.1⟩
              have hd : x'.dead = false := by rw [hcr2.dead]; exact decide_eq_false (by have := HE.out; omega)
              have HCR2 := Lib.hid hcr2
              have HDD := Lib.hid hd
              clear hcr2 hd HD HI HO
              go_wp2_with fail
              refine CP.mono ?_
              rintro e w3 ⟨he, hst3, u3⟩
              simp only [evS] at he
              subst he
              have HX3 := Lib.hid (HED.out.then u3 (fun q hq e => by have := HBB.out; rcases e with e | e <;> omega))
              have HST3 := Lib.hid hst3
              clear hst3 u3 CP
              have HX4 := HX3
              have HST4 := HST3
              have CD := dead_any HST4.out
              rw [HDD.out] at CD
              go_wp2_with fail
              refine CD.mono ?_
              rintro e w5 ⟨rfl, u5⟩
              have HX5 := Lib.hid (HX4.out.trans u5)
              have HST5 := Lib.hid (HST4.out.ext u5)
              clear u5 CD
              go_wp2_with fail
              go_roundw
              case rel => (exact ⟨k + 1, x', by rw [HMV.out.2, ← HMK.out, HMV.out.1]; simp, by simp, by omega, HCR2.out, HST5.out, NamesOk.succ HNM.out HAT.out HN.out, HX5.out⟩)
              case measure => simp [RowKit.intOf] <;> omega
            · have HE := Lib.hid (show ¬ (1 ≤ crAt c ∧ crAt c ≤ (k : Int) + 1) by rw [HA.out]; exact hA1)
              have h2 : ¬ 1 ≤ A := by omega
              have HMV := Lib.hid (HO.out HE.out HN.out).2.2
              clear hA1
              obtain ⟨hcr2, rfl⟩ : CrS ws c (k + 1) x' ∧ ev = none := ⟨(HO.out HE.out HN.out).1, (HO.out HE.out HN.out).2.1⟩
              have hd : x'.dead = false := by rw [hcr2.dead]; exact decide_eq_false (by have := HE.out; omega)
              have HCR2 := Lib.hid hcr2
              have HDD := Lib.hid hd
              clear hcr2 hd HD HI HO
              go_wp2_with fail
              refine CP.mono ?_
              rintro e w3 ⟨he, hst3, u3⟩
              simp only [evS] at he
              subst he
              have HX3 := Lib.hid (HED.out.then u3 (fun q hq e => by have := HBB.out; rcases e with e | e <;> omega))
              have HST3 := Lib.hid hst3
              clear hst3 u3 CP
              have HX4 := HX3
              have HST4 := HST3
              have CD := dead_any HST4.out
              rw [HDD.out] at CD
              go_wp2_with fail
              refine CD.mono ?_
              rintro e w5 ⟨rfl, u5⟩
              have HX5 := Lib.hid (HX4.out.trans u5)
              have HST5 := Lib.hid (HST4.out.ext u5)
              clear u5 CD
              go_wp2_with fail
              go_roundw
              case rel => (exact ⟨k + 1, x', by rw [HMV.out.2, ← HMK.out, HMV.out.1]; simp, by simp, by omega, HCR2.out, HST5.out, NamesOk.succ HNM.out HAT.out HN.out, HX5.out⟩)
              case measure => simp [RowKit.intOf] <;> omega
        · rw [Bool.not_eq_true] at hn
          rw [hn] at CM
          clear hn
          have C := alive12_any (HG.out.ext HX.out)
          go_wp2_with fail
          refine CM.mono ?_
          rintro e w2 ⟨rfl, rfl⟩
          go_wp2_with fail
          refine C.mono ?_
          rintro e w3 ⟨rfl, u⟩
          go_wp2_with fail
          go_ret
          exact ⟨rfl, HX.out.trans u⟩
      · obtain rfl : k = ws.length := by omega
        have hki : ¬ (ws.length : Int) < ws.length := by omega
        have hm200 : m ≤ 200 := by have := HM.out; have := HL.out; omega
        have CR := restart_ok HST.out none [] 0 0 (RdsAt.nil _ _) (by decide) rfl
        rw [show x.take [] 0 = calmSt (putN ws m) 0 from by unfold StD.take calmSt; rw [HCR.out.texts, HMK.out]] at CR
        clear HST HCR HMK
        generalize wr = W at *
        go_wp2_with fail
        refine CR.mono ?_
        rintro e w3 ⟨rfl, tv2, hst, hg, u⟩
        have HX3 := Lib.hid (HX.out.then u (fun q hq e => by have := HBB.out; have : q = b := e; omega))
        have HST3 := Lib.hid hst
        clear hst hg u CR HX
        have CD : Calls _ _ _ w3 (fun e w' => e = .returned (.bool false) ∧ Ext w3 w') := dead_any HST3.out
        go_wp2_with fail
        refine CD.mono ?_
        rintro e w4 ⟨rfl, u⟩
        have HX4 := Lib.hid (HX3.out.trans u)
        have HST4 := Lib.hid (HST3.out.ext u)
        clear u CD HX3 HST3
        go_wp2_with fail
        go_loopw [11] (fun iv w2 => CalmRel (putN ws m) ws.length b mb tv2 w iv w2) (fun iv _ => ws.length - (RowKit.intOf iv).toNat)
        case atStart => exact ⟨0, rfl, Nat.zero_le _, HST4.out, HX4.out⟩
        case round =>
          clear HST4 HX4
          obtain ⟨j, rfl, hj, hst, hX⟩ := hrel
          have HST := Lib.hid hst
          have HX := Lib.hid hX
          clear hst hX
          by_cases hlt : j < ws.length
          · have hji : (j : Int) < ws.length := by omega
            have hj200 : j < 200 := by have := HL.out; omega
            obtain ⟨g, off, rfl, c0, c1⟩ := HH.out.ext HX.out j _ (List.getElem?_eq_getElem hlt)
            have hn := HNM.out j hlt _ (List.getElem?_eq_getElem hlt)
            have hps := (HP.out ws[j] (List.getElem_mem hlt)).1
            have CL := lies_any (HH.out.ext HX.out) cap m ws[j].1 (by have := HM.out; omega) HL.out
            have CG := get_any (HG.out.ext HX.out) HST.out HBB.out.1 ws[j].1 hps (show j < _ by omega) (show ([] : List Int).length < 4611686018427387904 by decide)
            obtain ⟨r, hr⟩ : ∃ r, lieN ws m ws[j].1 = r := ⟨_, rfl⟩
            rw [cr_get (putN ws m) j hn r (by rw [lie_put]; exact hr)] at CG
            rw [hr] at CL
            generalize ws[j] = p at *
            clear hr hn hps
            cases r with
            | none =>
              simp only [lieV, Option.getD, Option.isSome] at CL CG
              go_wp2_with fail
              refine CL.mono ?_
              rintro e w5 ⟨rfl, rfl⟩
              clear CL
              go_wp2_with fail
              refine CG.mono ?_
              rintro e w5 ⟨he, hst5, u5⟩
              simp only [evS, Bool.false_eq_true, if_false] at he
              subst he
              have HX5 := Lib.hid (HX.out.then u5 (fun q hq e => by have := HBB.out; have : q = b := e; omega))
              have HST5 := Lib.hid hst5
              clear hst5 u5 CG HX HST
              have CI := is0_any (HG.out.ext HX5.out) (v := sv se 6) (x := some (6, none)) ⟨by decide, by decide, rfl⟩ 6
              rw [show (codeOf (some (6, none)) == 6 && (!placed (some (6, none)) || placeOf (some (6, none)) == 0)) = true from rfl] at CI
              go_wp2_with fail
              refine CI.mono ?_
              rintro e w6 ⟨rfl, u6⟩
              have HX6 := Lib.hid (HX5.out.trans u6)
              have HST6 := Lib.hid (HST5.out.ext u6)
              clear u6 CI HX5 HST5
              go_wp2_with fail
              go_roundw
              case rel => (exact ⟨j + 1, by simp, by omega, HST6.out, HX6.out⟩)
              case measure => simp [RowKit.intOf] <;> omega
            | some t =>
              simp only [lieV, Option.getD, Option.isSome] at CL CG
              go_wp2_with fail
              refine CL.mono ?_
              rintro e w5 ⟨rfl, rfl⟩
              clear CL
              go_wp2_with fail
              refine CG.mono ?_
              rintro e w5 ⟨he, hst5, u5⟩
              simp only [evS, if_true] at he
              subst he
              have HX5 := Lib.hid (HX.out.then u5 (fun q hq e => by have := HBB.out; have : q = b := e; omega))
              have HST5 := Lib.hid hst5
              clear hst5 u5 CG HX HST
              go_wp2_with fail
              go_roundw
              case rel => (exact ⟨j + 1, by simp, by omega, HST5.out, HX5.out⟩)
              case measure => simp [RowKit.intOf] <;> omega
          · obtain rfl : j = ws.length := by omega
            have CN := named_any HST.out (HH.out.ext HX.out) cap m HM.out HL.out rfl
            go_wp2_with fail
            refine CN.mono ?_
            rintro e w5 ⟨rfl, u5⟩
            have HX5 := Lib.hid (HX.out.trans u5)
            have CA := alive12_any (HG.out.ext HX5.out)
            clear u5 CN
            go_wp2_with fail
            refine CA.mono ?_
            rintro e w6 ⟨rfl, u6⟩
            have HX6 := Lib.hid (HX5.out.trans u6)
            clear u6 CA
            go_wp2_with fail
            go_ret
            exact ⟨rfl, HX6.out⟩
  · have HA := Lib.hid (crAt_pos c hneg)
    go_enter Tryd.func4, Tryd.ntmps4
    go_wp2_with fail
    refine CN.mono ?_
    rintro e w1 ⟨b, mb, tv, rfl, h, hb, hm, u⟩
    have HST := Lib.hid h
    have HBB := Lib.hid (show B ≤ b ∧ B ≤ mb ∧ w.heap.size ≤ b ∧ w.heap.size ≤ mb from by have := HG.out.size; omega)
    have HU := Lib.hid u
    clear h hb hm u CN
    go_wp2_with fail
    skip
    go_loopw [8, 9] (fun kv iv wr => CrRel ws c b mb tv w kv iv wr) (fun _ iv _ => ws.length - (RowKit.intOf iv).toNat)
    case atStart => exact ⟨0, _, by rw [kept_out c 0 (by omega)]; rfl, rfl, Nat.zero_le _, cr_start ws c, HST.out, NamesOk.zero ws, HU.out⟩
    case round =>
      clear HST HU
      obtain ⟨k, x, rfl, rfl, hk, hcr, hst, hnm, hX⟩ := hrel
      have HK := Lib.hid hk
      have HCR := Lib.hid hcr
      have HST := Lib.hid hst
      have HNM := Lib.hid hnm
      have HX := Lib.hid hX
      have HM := Lib.hid (kept_le c k)
      obtain ⟨m, hm⟩ : ∃ m, keptN c k = m := ⟨_, rfl⟩
      rw [hm] at HM ⊢
      have HMK := Lib.hid hm
      clear hcr hst hnm hX hm
      by_cases hlt : k < ws.length
      · have hki : (k : Int) < ws.length := by omega
        have hk200 : k < 200 := by have := HL.out; omega
        have hm200 : m < 200 := by have := HM.out; omega
        obtain ⟨g, off, rfl, c0, c1⟩ := HH.out.ext HX.out k _ (List.getElem?_eq_getElem hlt)
        have HAT := Lib.hid (List.getElem?_eq_getElem hlt)
        have HPP := Lib.hid (HP.out ws[k] (List.getElem_mem hlt))
        have HD : Hid (1 ≤ crAt c → crAt c ≤ k → nameOk ws[k].1 = true → CrS ws c (k + 1) (x.put ws[k].1 ws[k].2).1 ∧ (x.put ws[k].1 ws[k].2).2 = some (8, none)) := Lib.hid (fun h1 h2 hn => cr_dead HCR.out h1 h2 hn)
        have HI : Hid (crAt c = (k : Int) + 1 → nameOk ws[k].1 = true → CrS ws c (k + 1) (x.put ws[k].1 ws[k].2).1 ∧ (x.put ws[k].1 ws[k].2).2 = some (8, none)) := Lib.hid (fun h1 hn => cr_hit HCR.out hk200 hlt h1 hn)
        have HO : Hid (¬ (1 ≤ crAt c ∧ crAt c ≤ (k : Int) + 1) → nameOk ws[k].1 = true → CrS ws c (k + 1) (x.put ws[k].1 ws[k].2).1 ∧ (x.put ws[k].1 ws[k].2).2 = none ∧ keptN c k = k ∧ keptN c (k + 1) = k + 1) := Lib.hid (fun h1 hn => cr_on HCR.out hk200 hlt h1 hn)
        have CM := may12_any ws[k].1 HPP.out.1 wr
        have HNW := Lib.hid (show x.nw < 4611686018427387904 by have := HCR.out.nwle; omega)
        have HTL := Lib.hid (show x.texts.length < 4611686018427387904 by rw [HCR.out.texts]; have := putN_len ws (keptN c k); have := kept_le c k; omega)
        generalize ws[k] = p at *
        by_cases hn : nameOk p.1 = true
        · rw [hn] at CM
          have HN := Lib.hid hn
          clear hn
          go_wp2_with fail
          refine CM.mono ?_
          rintro e w2 ⟨rfl, rfl⟩
          clear CM
          go_wp2_with fail
          go_still_tail 11, (by kernel_rfl)
          have ED : Ext wr wr.drew := (Upd.refl none' wr).drew
          have CP := put_any (HG.out.ext (HX.out.trans ED)) (HST.out.ext ED) HBB.out.1 HBB.out.2.1 p.1 p.2 HPP.out.1 HPP.out.2 HNW.out HTL.out
          have HED := Lib.hid (HX.out.trans ED)
          obtain ⟨r, hr⟩ : ∃ r, x.put p.1 p.2 = r := ⟨_, rfl⟩
          rw [hr] at CP HD HI HO
          clear hr ED
          obtain ⟨x', ev⟩ := r
          by_cases hA1 : 1 ≤ c ∧ c ≤ (k : Int) + 1
          · obtain ⟨h1, h2⟩ := hA1
            by_cases hA2 : c = (k : Int) + 1
            · have HE := Lib.hid (show crAt c = (k : Int) + 1 by rw [HA.out]; exact hA2)
              have hb : ((k : Int) + 1 == c) = true := by rw [hA2]; simp
              have HMV := Lib.hid (show m = k by rw [← HMK.out]; exact kept_out c k (by have := HE.out; omega))
              clear hA2
              obtain ⟨hcr2, rfl⟩ : CrS ws c (k + 1) x' ∧ ev = some (8, none) := ⟨(HI.out HE.out HN.out).1, (HI.out HE.out HN.out).2⟩
              have hd : x'.dead = true := by rw [hcr2.dead]; exact decide_eq_true ⟨by have := HE.out; omega, by have := HE.out; omega⟩
              have HCR2 := Lib.hid hcr2
              have HDD := Lib.hid hd
              clear hcr2 hd HD HI HO
              go_wp2_with fail
              refine CP.mono ?_
              rintro e w3 ⟨he, hst3, u3⟩
              simp only [evS] at he
              subst he
              have HX3 := Lib.hid (HED.out.then u3 (fun q hq e => by have := HBB.out; rcases e with e | e <;> omega))
              have HST3 := Lib.hid hst3
              clear hst3 u3 CP
              have CI := is0_any (HG.out.ext HX3.out) (v := sv se 8) (x := some (8, none)) ⟨by decide, by decide, rfl⟩ 8
              rw [show (codeOf (some (8, none)) == 8 && (!placed (some (8, none)) || placeOf (some (8, none)) == 0)) = true from rfl] at CI
              go_wp2_with fail
              refine CI.mono ?_
              rintro e w4 ⟨rfl, u4⟩
              have HX4 := Lib.hid (HX3.out.trans u4)
              have HST4 := Lib.hid (HST3.out.ext u4)
              clear u4 CI HX3 HST3
              have CD := dead_any HST4.out
              rw [HDD.out] at CD
              go_wp2_with fail
              refine CD.mono ?_
              rintro e w5 ⟨rfl, u5⟩
              have HX5 := Lib.hid (HX4.out.trans u5)
              have HST5 := Lib.hid (HST4.out.ext u5)
              clear u5 CD
              go_wp2_with fail
              go_roundw
              case rel => (exact ⟨k + 1, x', by rw [kept_pos c k HE.out (by omega), HMV.out], by simp, by omega, HCR2.out, HST5.out, NamesOk.succ HNM.out HAT.out HN.out, HX5.out⟩)
              case measure => simp [RowKit.intOf] <;> omega
            · have HE := Lib.hid (show 1 ≤ crAt c ∧ crAt c ≤ k by rw [HA.out]; omega)
              have hb : ((k : Int) + 1 == c) = false := by simp; omega
              clear hA2
              obtain ⟨hcr2, rfl⟩ : CrS ws c (k + 1) x' ∧ ev = some (8, none) := ⟨(HD.out HE.out.1 HE.out.2 HN.out).1, (HD.out HE.out.1 HE.out.2 HN.out).2⟩
              have hd : x'.dead = true := by rw [hcr2.dead]; exact decide_eq_true ⟨by have := HE.out; omega, by have := HE.out; omega⟩
              have HCR2 := Lib.hid hcr2
              have HDD := Lib.hid hd
              clear hcr2 hd HD HI HO
              go_wp2_with fail
              refine CP.mono ?_
              rintro e w3 ⟨he, hst3, u3⟩
              simp only [evS] at he
              subst he
              have HX3 := Lib.hid (HED.out.then u3 (fun q hq e => by have := HBB.out; rcases e with e | e <;> omega))
              have HST3 := Lib.hid hst3
              clear hst3 u3 CP
              have CI := is0_any (HG.out.ext HX3.out) (v := sv se 8) (x := some (8, none)) ⟨by decide, by decide, rfl⟩ 8
              rw [show (codeOf (some (8, none)) == 8 && (!placed (some (8, none)) || placeOf (some (8, none)) == 0)) = true from rfl] at CI
              go_wp2_with fail
              refine CI.mono ?_
              rintro e w4 ⟨rfl, u4⟩
              have HX4 := Lib.hid (HX3.out.trans u4)
              have HST4 := Lib.hid (HST3.out.ext u4)
              clear u4 CI HX3 HST3
              have CD := dead_any HST4.out
              rw [HDD.out] at CD
              go_wp2_with fail
              refine CD.mono ?_
              rintro e w5 ⟨rfl, u5⟩
              have HX5 := Lib.hid (HX4.out.trans u5)
              have HST5 := Lib.hid (HST4.out.ext u5)
              clear u5 CD
              go_wp2_with fail
              go_roundw
              case rel => (exact ⟨k + 1, x', by rw [kept_in c k HE.out.1 HE.out.2, HMK.out], by simp, by omega, HCR2.out, HST5.out, NamesOk.succ HNM.out HAT.out HN.out, HX5.out⟩)
              case measure => simp [RowKit.intOf] <;> omega
          · by_cases hp1 : 1 ≤ c
            · have HE := Lib.hid (show ¬ (1 ≤ crAt c ∧ crAt c ≤ (k : Int) + 1) by rw [HA.out]; exact hA1)
              have h2 : ¬ c ≤ (k : Int) + 1 := by omega
              have HMV := Lib.hid (HO.out HE.out HN.out).2.2
              clear hA1
              obtain ⟨hcr2, rfl⟩ : CrS ws c (k + 1) x' ∧ ev = none := ⟨(HO.out HE.out HN.out).1, (HO.out HE.out HN.out).2.1⟩
              have hd : x'.dead = false := by rw [hcr2.dead]; exact decide_eq_false (by have := HE.out; omega)
              have HCR2 := Lib.hid hcr2
              have HDD := Lib.hid hd
              clear hcr2 hd HD HI HO
              go_wp2_with fail
              refine CP.mono ?_
              rintro e w3 ⟨he, hst3, u3⟩
              simp only [evS] at he
              subst he
              have HX3 := Lib.hid (HED.out.then u3 (fun q hq e => by have := HBB.out; rcases e with e | e <;> omega))
              have HST3 := Lib.hid hst3
              clear hst3 u3 CP
              have HX4 := HX3
              have HST4 := HST3
              have CD := dead_any HST4.out
              rw [HDD.out] at CD
              go_wp2_with fail
              refine CD.mono ?_
              rintro e w5 ⟨rfl, u5⟩
              have HX5 := Lib.hid (HX4.out.trans u5)
              have HST5 := Lib.hid (HST4.out.ext u5)
              clear u5 CD
              go_wp2_with fail
              go_roundw
              case rel => (exact ⟨k + 1, x', by rw [HMV.out.2, ← HMK.out, HMV.out.1]; simp, by simp, by omega, HCR2.out, HST5.out, NamesOk.succ HNM.out HAT.out HN.out, HX5.out⟩)
              case measure => simp [RowKit.intOf] <;> omega
            · have HE := Lib.hid (show ¬ (1 ≤ crAt c ∧ crAt c ≤ (k : Int) + 1) by rw [HA.out]; exact hA1)
              have h2 : ¬ 1 ≤ c := by omega
              have HMV := Lib.hid (HO.out HE.out HN.out).2.2
              clear hA1
              obtain ⟨hcr2, rfl⟩ : CrS ws c (k + 1) x' ∧ ev = none := ⟨(HO.out HE.out HN.out).1, (HO.out HE.out HN.out).2.1⟩
              have hd : x'.dead = false := by rw [hcr2.dead]; exact decide_eq_false (by have := HE.out; omega)
              have HCR2 := Lib.hid hcr2
              have HDD := Lib.hid hd
              clear hcr2 hd HD HI HO
              go_wp2_with fail
              refine CP.mono ?_
              rintro e w3 ⟨he, hst3, u3⟩
              simp only [evS] at he
              subst he
              have HX3 := Lib.hid (HED.out.then u3 (fun q hq e => by have := HBB.out; rcases e with e | e <;> omega))
              have HST3 := Lib.hid hst3
              clear hst3 u3 CP
              have HX4 := HX3
              have HST4 := HST3
              have CD := dead_any HST4.out
              rw [HDD.out] at CD
              go_wp2_with fail
              refine CD.mono ?_
              rintro e w5 ⟨rfl, u5⟩
              have HX5 := Lib.hid (HX4.out.trans u5)
              have HST5 := Lib.hid (HST4.out.ext u5)
              clear u5 CD
              go_wp2_with fail
              go_roundw
              case rel => (exact ⟨k + 1, x', by rw [HMV.out.2, ← HMK.out, HMV.out.1]; simp, by simp, by omega, HCR2.out, HST5.out, NamesOk.succ HNM.out HAT.out HN.out, HX5.out⟩)
              case measure => simp [RowKit.intOf] <;> omega
        · rw [Bool.not_eq_true] at hn
          rw [hn] at CM
          clear hn
          have C := alive12_any (HG.out.ext HX.out)
          go_wp2_with fail
          refine CM.mono ?_
          rintro e w2 ⟨rfl, rfl⟩
          go_wp2_with fail
          refine C.mono ?_
          rintro e w3 ⟨rfl, u⟩
          go_wp2_with fail
          go_ret
          exact ⟨rfl, HX.out.trans u⟩
      · obtain rfl : k = ws.length := by omega
        have hki : ¬ (ws.length : Int) < ws.length := by omega
        have hm200 : m ≤ 200 := by have := HM.out; have := HL.out; omega
        have CR := restart_ok HST.out none [] 0 0 (RdsAt.nil _ _) (by decide) rfl
        rw [show x.take [] 0 = calmSt (putN ws m) 0 from by unfold StD.take calmSt; rw [HCR.out.texts, HMK.out]] at CR
        clear HST HCR HMK
        generalize wr = W at *
        go_wp2_with fail
        refine CR.mono ?_
        rintro e w3 ⟨rfl, tv2, hst, hg, u⟩
        have HX3 := Lib.hid (HX.out.then u (fun q hq e => by have := HBB.out; have : q = b := e; omega))
        have HST3 := Lib.hid hst
        clear hst hg u CR HX
        have CD : Calls _ _ _ w3 (fun e w' => e = .returned (.bool false) ∧ Ext w3 w') := dead_any HST3.out
        go_wp2_with fail
        refine CD.mono ?_
        rintro e w4 ⟨rfl, u⟩
        have HX4 := Lib.hid (HX3.out.trans u)
        have HST4 := Lib.hid (HST3.out.ext u)
        clear u CD HX3 HST3
        go_wp2_with fail
        go_loopw [11] (fun iv w2 => CalmRel (putN ws m) ws.length b mb tv2 w iv w2) (fun iv _ => ws.length - (RowKit.intOf iv).toNat)
        case atStart => exact ⟨0, rfl, Nat.zero_le _, HST4.out, HX4.out⟩
        case round =>
          clear HST4 HX4
          obtain ⟨j, rfl, hj, hst, hX⟩ := hrel
          have HST := Lib.hid hst
          have HX := Lib.hid hX
          clear hst hX
          by_cases hlt : j < ws.length
          · have hji : (j : Int) < ws.length := by omega
            have hj200 : j < 200 := by have := HL.out; omega
            obtain ⟨g, off, rfl, c0, c1⟩ := HH.out.ext HX.out j _ (List.getElem?_eq_getElem hlt)
            have hn := HNM.out j hlt _ (List.getElem?_eq_getElem hlt)
            have hps := (HP.out ws[j] (List.getElem_mem hlt)).1
            have CL := lies_any (HH.out.ext HX.out) cap m ws[j].1 (by have := HM.out; omega) HL.out
            have CG := get_any (HG.out.ext HX.out) HST.out HBB.out.1 ws[j].1 hps (show j < _ by omega) (show ([] : List Int).length < 4611686018427387904 by decide)
            obtain ⟨r, hr⟩ : ∃ r, lieN ws m ws[j].1 = r := ⟨_, rfl⟩
            rw [cr_get (putN ws m) j hn r (by rw [lie_put]; exact hr)] at CG
            rw [hr] at CL
            generalize ws[j] = p at *
            clear hr hn hps
            cases r with
            | none =>
              simp only [lieV, Option.getD, Option.isSome] at CL CG
              go_wp2_with fail
              refine CL.mono ?_
              rintro e w5 ⟨rfl, rfl⟩
              clear CL
              go_wp2_with fail
              refine CG.mono ?_
              rintro e w5 ⟨he, hst5, u5⟩
              simp only [evS, Bool.false_eq_true, if_false] at he
              subst he
              have HX5 := Lib.hid (HX.out.then u5 (fun q hq e => by have := HBB.out; have : q = b := e; omega))
              have HST5 := Lib.hid hst5
              clear hst5 u5 CG HX HST
              have CI := is0_any (HG.out.ext HX5.out) (v := sv se 6) (x := some (6, none)) ⟨by decide, by decide, rfl⟩ 6
              rw [show (codeOf (some (6, none)) == 6 && (!placed (some (6, none)) || placeOf (some (6, none)) == 0)) = true from rfl] at CI
              go_wp2_with fail
              refine CI.mono ?_
              rintro e w6 ⟨rfl, u6⟩
              have HX6 := Lib.hid (HX5.out.trans u6)
              have HST6 := Lib.hid (HST5.out.ext u6)
              clear u6 CI HX5 HST5
              go_wp2_with fail
              go_roundw
              case rel => (exact ⟨j + 1, by simp, by omega, HST6.out, HX6.out⟩)
              case measure => simp [RowKit.intOf] <;> omega
            | some t =>
              simp only [lieV, Option.getD, Option.isSome] at CL CG
              go_wp2_with fail
              refine CL.mono ?_
              rintro e w5 ⟨rfl, rfl⟩
              clear CL
              go_wp2_with fail
              refine CG.mono ?_
              rintro e w5 ⟨he, hst5, u5⟩
              simp only [evS, if_true] at he
              subst he
              have HX5 := Lib.hid (HX.out.then u5 (fun q hq e => by have := HBB.out; have : q = b := e; omega))
              have HST5 := Lib.hid hst5
              clear hst5 u5 CG HX HST
              go_wp2_with fail
              go_roundw
              case rel => (exact ⟨j + 1, by simp, by omega, HST5.out, HX5.out⟩)
              case measure => simp [RowKit.intOf] <;> omega
          · obtain rfl : j = ws.length := by omega
            have CN := named_any HST.out (HH.out.ext HX.out) cap m HM.out HL.out rfl
            go_wp2_with fail
            refine CN.mono ?_
            rintro e w5 ⟨rfl, u5⟩
            have HX5 := Lib.hid (HX.out.trans u5)
            have CA := alive12_any (HG.out.ext HX5.out)
            clear u5 CN
            go_wp2_with fail
            refine CA.mono ?_
            rintro e w6 ⟨rfl, u6⟩
            have HX6 := Lib.hid (HX5.out.trans u6)
            clear u6 CA
            go_wp2_with fail
            go_ret
            exact ⟨rfl, HX6.out⟩
end Go.Proofs.YtdkhnkhflbefbaaDoor
