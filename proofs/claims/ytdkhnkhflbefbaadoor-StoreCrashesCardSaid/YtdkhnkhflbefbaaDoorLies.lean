/- The statements' lies and may of chapter 12 by contracts; what lies by a name behind writes. -/
import Derived.Test.YtdkhnkhflbefbaaDoorStNone
namespace Go.Proofs.YtdkhnkhflbefbaaDoor
open Go.RowKit Go.Lib Go.Sort

/-- Writes in memory. -/
def WrsAt (w : World) (a : Option Addr) (ws : TxtL) : Prop := ∀ (i : Nat) (p : ByteArray × ByteArray), ws[i]? = some p → ∃ g off, a = some ⟨g, off, none⟩ ∧ w.cell? ⟨g, off + i * 2, none⟩ = some (.string p.1) ∧ w.cell? ⟨g, off + i * 2 + 1, none⟩ = some (.string p.2)
theorem WrsAt.ext {w w' : World} {a : Option Addr} {ws : TxtL} (h : WrsAt w a ws) (u : Ext w w') : WrsAt w' a ws := fun i p hp => by
  obtain ⟨g, off, e, c0, c1⟩ := h i p hp
  exact ⟨g, off, e, u.cellv c0, u.cellv c1⟩
/-- What lies by a name behind the first n writes. -/
def lieN (ws : TxtL) : Nat → ByteArray → Option ByteArray
  | 0, _ => none
  | n + 1, s => match ws[n]? with
    | some p => if p.1 = s then some p.2 else lieN ws n s
    | none => lieN ws n s
/-- The texts behind the first n writes. -/
def putN (ws : TxtL) : Nat → TxtL
  | 0 => []
  | n + 1 => match ws[n]? with
    | some p => putL (putN ws n) p.1 p.2
    | none => putN ws n
theorem lie_put (ws : TxtL) (s : ByteArray) : ∀ n, lookL (putN ws n) s = lieN ws n s
  | 0 => rfl
  | n + 1 => by
    have ih := lie_put ws s n
    unfold putN lieN
    cases hw : ws[n]? with
    | none => exact ih
    | some p =>
      simp only
      rw [lookL_put]
      by_cases h : s = p.1
      · rw [if_pos h, if_pos h.symm]
      · rw [if_neg h, if_neg (fun e => h e.symm)]; exact ih
theorem putN_len (ws : TxtL) : ∀ n, (putN ws n).length ≤ n
  | 0 => Nat.le_refl _
  | n + 1 => by
    have ih := putN_len ws n
    unfold putN
    cases hw : ws[n]? with
    | none => simp only; omega
    | some p => simp only; rw [putL_len]; split <;> omega
def lieV (r : Option ByteArray) : Value := .tuple #[.string (r.getD ⟨#[]⟩), .bool r.isSome]
theorem beq_toList (a b : ByteArray) : (a.toList == b.toList) = decide (a = b) := by
  rw [Bool.eq_iff_iff]
  simp only [beq_iff_eq, decide_eq_true_eq]
  rw [ByteArray.toList_eq, ByteArray.toList_eq]
  exact ⟨fun h => ByteArray.ext (Array.ext' h), fun h => by rw [h]⟩
set_option maxHeartbeats 2000000 in
theorem lies_any {w : World} {a : Option Addr} {ws : TxtL} (h : WrsAt w a ws) (cap n : Nat) (s : ByteArray) (hn : n ≤ ws.length) (hl : ws.length ≤ 200) :
    Calls Tryd.prog 16 #[.slice a ws.length cap, .int .i64 n, .string s] w fun e w' => e = .returned (lieV (lieN ws n s)) ∧ w = w' := by
  have HH := Lib.hid h
  have HN := Lib.hid hn
  have HL := Lib.hid hl
  obtain ⟨r, hr⟩ : ∃ r, lieN ws n s = r := ⟨_, rfl⟩
  have HR := Lib.hid hr
  rw [hr]
  clear h hn hl hr
  go_enter Tryd.func16, Tryd.ntmps16
  have hw0 : IntKind.i64.wrap ((n : Int) - 1) = (n : Int) - 1 := IntWalk.i64_in _ (by have := HN.out; have := HL.out; omega)
  go_wp2_with fail
  go_loopw [8] (fun iv wr => ∃ k : Nat, iv = .int .i64 ((k : Int) - 1) ∧ k ≤ n ∧ lieN ws k s = r ∧ w = wr) (fun iv _ => ((RowKit.intOf iv) + 1).toNat)
  case atStart => exact ⟨n, rfl, Nat.le_refl _, HR.out, rfl⟩
  case round =>
    obtain ⟨k, rfl, hk, hrk, rfl⟩ := hrel
    cases k with
    | zero =>
      have HRV := Lib.hid (show r = none from hrk.symm)
      clear hrk
      go_wp2_with fail
      go_ret2
      exact ⟨by rw [HRV.out]; rfl, by trivial⟩
    | succ k =>
      have hlt : k < ws.length := by have := HN.out; omega
      obtain ⟨g, off, rfl, c0, c1⟩ := HH.out k _ (List.getElem?_eq_getElem hlt)
      have HRK := Lib.hid (show (if ws[k].1 = s then some ws[k].2 else lieN ws k s) = r from by rw [← hrk]; show _ = (match ws[k]? with | some p => if p.1 = s then some p.2 else lieN ws k s | none => lieN ws k s); rw [List.getElem?_eq_getElem hlt])
      have hki : ((k + 1 : Nat) : Int) - 1 = k := by omega
      have hw1 : IntKind.i64.wrap ((k : Int) - 1) = (k : Int) - 1 := IntWalk.i64_in _ (by have := HL.out; omega)
      have hkl : (k : Int) < ws.length := by omega
      have he := beq_toList ws[k].1 s
      rw [hki]
      generalize ws[k] = p at *
      clear hrk hki
      by_cases hps : p.1 = s
      · rw [decide_eq_true hps] at he
        have HRV := Lib.hid (show r = some p.2 from by have := HRK.out; rw [if_pos hps] at this; exact this.symm)
        clear hps
        go_wp2_with fail
        go_ret2
        exact ⟨by rw [HRV.out]; rfl, by trivial⟩
      · rw [decide_eq_false hps] at he
        have HRV := Lib.hid (show lieN ws k s = r from by have := HRK.out; rw [if_neg hps] at this; exact this)
        clear hps
        go_wp2_with fail
        exact ⟨⟨k, by simp, by omega, HRV.out, by trivial⟩, by simp [RowKit.intOf] <;> omega⟩
theorem may12_any (s : ByteArray) (hs : s.size ≤ 9223372036854775807) (w : World) : Calls Tryd.prog 15 #[.string s] w fun e w' => e = .returned (.bool (nameOk s)) ∧ w = w' := by
  by_cases h1 : 1 ≤ s.size
  · by_cases h2 : s.size ≤ 256
    · have HN := Lib.hid (show nameOk s = true from decide_eq_true ⟨h1, h2⟩)
      have d1 : (1 : Int) ≤ s.size := by omega
      have d2 : (s.size : Int) ≤ 256 := by omega
      go_enter Tryd.func15, Tryd.ntmps15
      go_wp2_with fail
      go_ret
      exact ⟨by rw [HN.out]; rfl, rfl⟩
    · have HN := Lib.hid (show nameOk s = false from decide_eq_false (fun h => h2 h.2))
      have d1 : (1 : Int) ≤ s.size := by omega
      have d2 : ¬ (s.size : Int) ≤ 256 := by omega
      go_enter Tryd.func15, Tryd.ntmps15
      go_wp2_with fail
      go_ret
      exact ⟨by rw [HN.out]; rfl, rfl⟩
  · have HN := Lib.hid (show nameOk s = false from decide_eq_false (fun h => h1 h.1))
    have d1 : ¬ (1 : Int) ≤ s.size := by omega
    go_enter Tryd.func15, Tryd.ntmps15
    go_wp2_with fail
    go_ret
    exact ⟨by rw [HN.out]; rfl, rfl⟩
end Go.Proofs.YtdkhnkhflbefbaaDoor
