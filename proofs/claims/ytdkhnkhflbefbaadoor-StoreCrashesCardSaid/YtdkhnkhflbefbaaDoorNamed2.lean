/- The statements' named of chapter 12 by a contract: the walk. -/
import Derived.Test.YtdkhnkhflbefbaaDoorNamed
namespace Go.Proofs.YtdkhnkhflbefbaaDoor
open Go.RowKit Go.Lib Go.Sort

set_option maxRecDepth 8000 in
set_option maxHeartbeats 8000000 in
theorem named_any {b mb : Nat} {tv : Value} {x : StD} {w : World} (H : StAt w b mb tv x) {a : Option Addr} {ws : TxtL} (h : WrsAt w a ws) (cap n : Nat) (hn : n ≤ ws.length) (hl : ws.length ≤ 200) (hx : x.texts = putN ws n) :
    Calls Tryd.prog 17 #[.pointer (some ⟨b, 0, none⟩), .slice a ws.length cap, .int .i64 n] w fun e w' => e = .returned (.bool true) ∧ Ext w w' := by
  have hlen : x.texts.length ≤ n := by rw [hx]; exact putN_len ws n
  have C := names_any H (by omega)
  have HKL := Lib.hid (key_le H.tex)
  have HLN := Lib.hid (names_len x.texts)
  have HKEY : Hid (∀ (i : Nat) (t : ByteArray), (strs (namesL x.texts))[i]? = some t → ∃ u, lieN ws n t = some u) := Lib.hid (fun i t ht => by
    have := names_key ht
    rw [hx, lie_put] at this
    exact Option.isSome_iff_exists.1 this)
  have HLESS : Hid (∀ (i : Nat) (s t : ByteArray), (strs (namesL x.texts))[i]? = some s → (strs (namesL x.texts))[i + 1]? = some t → Op.bytesLess s.toList t.toList = true) := Lib.hid (fun i s t h1 h2 => names_less H.tex.nd h1 h2)
  have HHAS : Hid (∀ i, i < n → (h : i < ws.length) → ∃ k, k < x.texts.length ∧ (strs (namesL x.texts))[k]? = some ws[i].1) := Lib.hid (fun i hi h => names_has (by rw [hx, lie_put]; exact lie_has ws n i hi h))
  have HH := Lib.hid h
  have HN := Lib.hid hn
  have HL := Lib.hid hl
  have HSZ := Lib.hid hlen
  clear H h hn hl hx hlen
  generalize hln : namesL x.texts = ls at *
  generalize hst : x.texts.length = len at *
  go_enter Tryd.func17, Tryd.ntmps17
  go_wp2_with fail
  refine C.mono ?_
  rintro e w1 ⟨g, cn, rfl, ho, u⟩
  have HT := Lib.hid (texts_of_own ho HKL.out)
  have HU := Lib.hid u
  have HW := Lib.hid (HH.out.ext u)
  clear ho u C HKL
  generalize strs ls = l at *
  go_wp2_with fail
  go_loopw [8] (fun iv wr => ∃ k : Nat, iv = .int .i64 k ∧ k ≤ len ∧ Ext w1 wr) (fun iv _ => len - (RowKit.intOf iv).toNat)
  case atStart => exact ⟨0, rfl, Nat.zero_le _, Upd.refl _ _⟩
  case round =>
    obtain ⟨k, rfl, hk, hX⟩ := hrel
    have HX := Lib.hid hX
    by_cases hlt : k < len
    · have hkl : k < l.length := by rw [HLN.out]; exact hlt
      obtain ⟨g2, o2, e2, ck⟩ := text_at (HT.out.later hX) k hkl
      obtain ⟨rfl, rfl⟩ : g = g2 ∧ 0 = o2 := by simpa using e2
      obtain ⟨v, hv⟩ := HKEY.out k _ (List.getElem?_eq_getElem hkl)
      have C := lies_any (HW.out.ext hX) cap n l[k] HN.out HL.out
      rw [hv] at C
      simp only [lieV, Option.getD, Option.isSome] at C
      have hki : (k : Int) < len := by omega
      have HLK := Lib.hid (List.getElem?_eq_getElem hkl)
      generalize l[k] = t at *
      have hb200 : k < 200 := by have := HL.out; have := HN.out; have := HSZ.out; omega
      clear hv hX e2
      simp only [Nat.zero_add] at ck
      cases k with
      | zero =>
        go_wp2_with fail
        refine C.mono ?_
        rintro e w2 ⟨rfl, rfl⟩
        go_wp2_with fail
        go_quiet (fail)
        go_wp2_with fail
        exact ⟨⟨1, by simp, by omega, HX.out.drewN _⟩, by simp [RowKit.intOf] <;> omega⟩
      | succ j =>
        have hjl : j < l.length := by omega
        obtain ⟨g2, o2, e2, cj⟩ := text_at (HT.out.later HX.out) j hjl
        obtain ⟨rfl, rfl⟩ : g = g2 ∧ 0 = o2 := by simpa using e2
        have hle := HLESS.out j l[j] t (List.getElem?_eq_getElem hjl) HLK.out
        generalize l[j] = s at *
        have hw1 : IntKind.i64.wrap (((j + 1 : Nat) : Int) - 1) = j := IntWalk.i64_in _ (by have := HL.out; have := HN.out; have := HSZ.out; omega) |>.trans (by omega)
        have hjp : (0 : Int) < ((j + 1 : Nat) : Int) := by omega
        have hji : (j : Int) < len := by omega
        have hjn : j < len := by omega
        clear e2
        simp only [Nat.zero_add] at cj
        go_wp2_with fail
        refine C.mono ?_
        rintro e w2 ⟨rfl, rfl⟩
        go_wp2_with fail
        go_quiet (fail)
        go_wp2_with fail
        exact ⟨⟨j + 2, by simp; omega, by omega, HX.out.drewN _⟩, by simp [RowKit.intOf] <;> omega⟩
    · obtain rfl : k = len := by omega
      have hki : ¬ ((k : Int) < (k : Int)) := by omega
      clear hX
      go_wp2_with fail
      have E0 := HX.out
      go_loopw [11] (fun iv w2 => ∃ i : Nat, iv = .int .i64 i ∧ i ≤ n ∧ Ext w1 w2) (fun iv _ => n - (RowKit.intOf iv).toNat)
      case atStart => exact ⟨0, rfl, Nat.zero_le _, E0⟩
      case round =>
        clear E0 HX hlt hki
        obtain ⟨i, rfl, hi, hX⟩ := hrel
        have HX := Lib.hid hX
        generalize wr = W2 at *
        by_cases hin : i < n
        · have hii : (i : Int) < n := by omega
          have hi200 : i < 200 := by have := HL.out; have := HN.out; omega
          have hiw : i < ws.length := Nat.lt_of_lt_of_le hin HN.out
          have hiwi : (i : Int) < ws.length := by omega
          obtain ⟨p, hp, hps⟩ := HHAS.out i hin hiw
          have HP := Lib.hid hp
          have HPS := Lib.hid hps
          have HAT := Lib.hid (List.getElem?_eq_getElem hiw)
          generalize ws[i] = q at *
          clear hX hp hps
          go_wp2_with fail
          go_loopw [12, 13] (fun bv jv w3 => ∃ (j : Nat) (b : Bool), bv = .bool b ∧ jv = .int .i64 j ∧ j ≤ k ∧ (p < j → b = true) ∧ Ext w1 w3) (fun _ jv _ => k - (RowKit.intOf jv).toNat)
          case atStart => exact ⟨0, false, rfl, rfl, Nat.zero_le _, fun h => by omega, HX.out⟩
          case round =>
            clear HX
            obtain ⟨j, b, rfl, rfl, hj, hb, hX⟩ := hrel
            have HX := Lib.hid hX
            have HB := Lib.hid hb
            by_cases hjk : j < k
            · have hjl : j < l.length := by rw [HLN.out]; exact hjk
              obtain ⟨g2, o2, e2, cj⟩ := text_at (HT.out.later hX) j hjl
              obtain ⟨rfl, rfl⟩ : g = g2 ∧ 0 = o2 := by simpa using e2
              obtain ⟨gw, ow, rfl, cw, _⟩ := HW.out.ext hX i q HAT.out
              have hji : (j : Int) < k := by omega
              have hb200 : j < 200 := by have := HL.out; have := HN.out; have := HSZ.out; omega
              have heq := beq_toList l[j] q.1
              have HLJ := Lib.hid (List.getElem?_eq_getElem hjl)
              generalize l[j] = t at *
              clear hX hb e2
              simp only [Nat.zero_add] at cj
              cases b with
              | true =>
                clear heq
                go_wp2_with fail
                go_quiet (fail)
                go_wp2_with fail
                exact ⟨⟨j + 1, true, rfl, by simp, by omega, fun _ => rfl, HX.out.drewN _⟩, by simp [RowKit.intOf] <;> omega⟩
              | false =>
                by_cases ht : t = q.1
                · rw [decide_eq_true ht] at heq
                  clear ht
                  go_wp2_with fail
                  go_quiet (fail)
                  go_wp2_with fail
                  exact ⟨⟨j + 1, true, rfl, by simp, by omega, fun _ => rfl, HX.out.drewN _⟩, by simp [RowKit.intOf] <;> omega⟩
                · rw [decide_eq_false ht] at heq
                  have HNE : Hid (¬ p = j) := Lib.hid (fun e => ht (by have h1 := HPS.out; rw [e, HLJ.out] at h1; exact Option.some.inj h1))
                  clear ht
                  go_wp2_with fail
                  go_quiet (fail)
                  go_wp2_with fail
                  exact ⟨⟨j + 1, false, rfl, by simp, by omega, fun h => HB.out (by have := HNE.out; omega), HX.out.drewN _⟩, by simp [RowKit.intOf] <;> omega⟩
            · obtain rfl : j = k := by omega
              obtain rfl : b = true := HB.out HP.out
              have hji : ¬ ((j : Int) < (j : Int)) := by omega
              clear hX hb
              go_wp2_with fail
              exact ⟨⟨i + 1, by simp, by omega, HX.out⟩, by simp [RowKit.intOf] <;> omega⟩
        · obtain rfl : i = n := by omega
          have hii : ¬ ((i : Int) < (i : Int)) := by omega
          clear hX
          go_wp2_with fail
          go_ret
          exact ⟨rfl, HU.out.trans HX.out⟩
end Go.Proofs.YtdkhnkhflbefbaaDoor
