/- Plain laws of answers: what is written is read as it was; what is read is written as it was. Plain laws of answers: what is read is written as it was. -/
import Derived.Test.YtljnhelnmnomoaaGreatDoorDecA
import Derived.Test.YtljnhelnmnomoaaGreatDoorForms
namespace Go.Proofs.YtljnhelnmnomoaaGreatDoor
open Go.RowKit Go.Lib


theorem rest_after (x : RdD) (l r : List UInt8) (hr : x.rest = l ++ r) : ({ x with pos := x.pos + l.length } : RdD).rest = r := by
  unfold RdD.rest at hr ⊢
  show x.s.data.toList.drop (x.pos + l.length) = r
  rw [← List.drop_drop, hr, List.drop_left]
theorem rest_fits (x : RdD) (l r : List UInt8) (hr : x.rest = l ++ r) (hp : x.pos ≤ x.s.size) : x.pos + l.length ≤ x.s.size := by
  have h := rest_len x
  rw [hr, List.length_append] at h
  omega
theorem var_at {x : RdD} (hf : x.f = none) (n : Nat) (hn : n < 18446744073709551616) (r : List UInt8) (hr : x.rest = varB n ++ r) : x.var = (n, { x with pos := x.pos + (varB n).length }) := by
  unfold RdD.var
  rw [if_pos hf, hr, numB_varB n hn r]
theorem take_at {x : RdD} (hf : x.f = none) (hp : x.pos ≤ x.s.size) (l r : List UInt8) (src : Int) (hr : x.rest = l ++ r) : x.take l.length src = (l, { x with pos := x.pos + l.length }) := by
  unfold RdD.take
  rw [if_pos ⟨hf, rest_fits x l r hr hp⟩, hr, List.take_left]
theorem hash_at {x : RdD} (hf : x.f = none) (hp : x.pos ≤ x.s.size) (l r : List UInt8) (hl : l.length = 32) (hr : x.rest = l ++ r) : x.hash = (l, { x with pos := x.pos + 32 }) := by
  unfold RdD.hash
  rw [if_neg (fun h => h hf)]
  have := take_at hf hp l r x.pos hr
  rw [hl] at this
  rw [this]
  simp [hashOf, hl]
theorem text_at {x : RdD} (hf : x.f = none) (hp : x.pos ≤ x.s.size) (t r : List UInt8) (m : Nat) (hm : t.length ≤ m) (ht : t.length < 18446744073709551616) (hr : x.rest = varB t.length ++ (t ++ r)) : x.text m = (t, { x with pos := x.pos + (varB t.length).length + t.length }) := by
  unfold RdD.text
  have hv := var_at hf t.length ht (t ++ r) hr
  have hr2 := rest_after x _ _ hr
  have hp2 := rest_fits x _ _ hr hp
  rw [if_neg (by omega), if_neg (fun h => h hf), hv]
  simp only
  rw [if_neg (fun h => h hf), if_neg (by omega)]
  exact take_at (x := { x with pos := x.pos + (varB t.length).length }) hf hp2 t r x.pos hr2
theorem decHs_at : ∀ (hs : List (List UInt8)) (x : RdD) (r : List UInt8), (∀ t ∈ hs, t.length = 32) → x.f = none → x.pos ≤ x.s.size → x.rest = hs.flatten ++ r → decHs hs.length x = (hs, { x with pos := x.pos + 32 * hs.length })
  | [], x, r, _, _, _, _ => by simp [decHs]
  | t :: hs, x, r, hl, hf, hp, hr => by
    have ht := hl t (by simp)
    have hr' : x.rest = t ++ (hs.flatten ++ r) := by rw [hr]; simp
    have hh := hash_at hf hp t (hs.flatten ++ r) ht hr'
    have hr2 := rest_after x _ _ hr'
    have hp2 := rest_fits x _ _ hr' hp
    rw [ht] at hr2 hp2
    have ih := decHs_at hs { x with pos := x.pos + 32 } r (fun u hu => hl u (by simp [hu])) hf hp2 hr2
    show decHs (hs.length + 1) x = _
    unfold decHs
    rw [hh]
    simp only
    rw [if_neg (fun h => h hf), ih]
    simp only [List.length_cons, Prod.mk.injEq, true_and]
    congr 1
    omega
theorem fixB1 (n : Nat) (h : n < 256) : fixB 1 n = [n.toUInt8] := by
  unfold fixB fixB
  simp [Nat.shiftRight_eq_div_pow, Nat.mod_eq_of_lt h]
theorem str_len (l : List UInt8) : (str l).data.toList = l := by simp
theorem toU8 (n : Nat) (h : n < 256) : n.toUInt8.toNat = n := by simp; omega
/-- What is written is read as it was. -/
theorem once_back (a : AnsD) (ha : a.Ok) (hb : ¬ a.bad) (he : ansE a = none) : decA (str (ansB a)) = (a, none) ∧ (ansB a).length ≤ 1048576 ∧ a.leaf.size ≤ 65536 := by
  by_cases hc : a.code ≠ 0
  · have e1 : ansB a = [a.code.toUInt8] := by
      unfold ansB; rw [if_neg hb, if_pos hc, fixB1 _ ha.code]
    obtain ⟨code, size, hs, leaf⟩ := a
    have b5 : ¬ 5 < code := fun h => hb (.inl h)
    obtain rfl : size = 0 := Decidable.byContradiction fun h => hb (.inr ⟨hc, .inl h⟩)
    obtain rfl : hs = [] := by
      cases hs with
      | nil => rfl
      | cons x t => exact absurd (.inr ⟨hc, .inr (.inl (by simp))⟩) hb
    obtain rfl : leaf = ⟨#[]⟩ := Classical.byContradiction fun h => hb (.inr ⟨hc, .inr (.inr h)⟩)
    have h256 := ha.code
    simp only at hc e1 h256
    rw [e1]
    refine ⟨?_, by simp, Nat.zero_le _⟩
    rw [decA_cons (str [code.toUInt8]) (by simp [ByteArray.size]) code.toUInt8 [] (by simp) (by rw [toU8 _ h256]; exact b5), toU8 _ h256, if_neg hc]
    simp only
    have : RdD.fin ⟨str [code.toUInt8], 1, none⟩ = none := by unfold RdD.fin; rw [if_neg (by simp [ByteArray.size])]
    rw [this, if_pos rfl]
  · have hc0 : a.code = 0 := Decidable.byContradiction hc
    have hl : ¬ (65536 < a.leaf.size ∨ 1048576 < a.hs.length) := fun h => by
      unfold ansE at he; rw [if_neg hb, if_neg hc, if_pos h] at he; cases he
    have hw : ¬ 1048576 < a.body.length := fun h => by
      unfold ansE at he; rw [if_neg hb, if_neg hc, if_neg hl] at he; unfold wholeE at he; rw [if_pos h] at he; cases he
    have e1 : ansB a = a.body := by
      unfold ansB; rw [if_neg hb, if_neg hc, if_neg hl]; unfold wholeB; rw [if_neg hw]
    rw [e1]
    refine ⟨?_, by omega, by omega⟩
    have hsz := ha.size
    have hlen := ha.len
    obtain ⟨code, size, hs, leaf⟩ := a
    simp only at hc0 hl hw hsz hlen
    subst hc0
    have eb : (AnsD.mk 0 size hs leaf).body = 0 :: (varB size ++ (varB hs.length ++ (hs.flatten ++ (varB leaf.data.toList.length ++ (leaf.data.toList ++ []))))) := by
      have : leaf.data.toList.length = leaf.size := by rw [Array.length_toList]; rfl
      unfold AnsD.body
      rw [fixB1 0 (by omega), this]
      simp
    generalize hbd : (AnsD.mk 0 size hs leaf).body = bd at *
    have hs0 : ¬ 1048576 < (str bd).size := by rw [str_size]; exact hw
    rw [decA_cons (str bd) hs0 0 _ (by rw [str_len]; exact eb) (by decide), if_pos (show (0 : UInt8).toNat = 0 from rfl)]
    unfold decBody
    simp only
    have hll : leaf.data.toList.length = leaf.size := by rw [Array.length_toList]; rfl
    have r0 : RdD.rest ⟨str bd, 1, none⟩ = varB size ++ (varB hs.length ++ (hs.flatten ++ (varB leaf.data.toList.length ++ (leaf.data.toList ++ [])))) := by
      unfold RdD.rest; simp only; rw [str_len, eb]; rfl
    have p0 : (1 : Nat) ≤ (str bd).size := by rw [str_size, eb]; simp
    have v0 := var_at (x := ⟨str bd, 1, none⟩) rfl size hsz _ r0
    have r1 := rest_after ⟨str bd, 1, none⟩ _ _ r0
    have p1 := rest_fits ⟨str bd, 1, none⟩ _ _ r0 p0
    rw [v0]
    simp only
    have v1 := var_at (x := ⟨str bd, 1 + (varB size).length, none⟩) rfl hs.length (by omega) _ r1
    have r2 := rest_after ⟨str bd, 1 + (varB size).length, none⟩ _ _ r1
    have p2 := rest_fits ⟨str bd, 1 + (varB size).length, none⟩ _ _ r1 p1
    rw [v1]
    simp only
    have d2 := decHs_at hs ⟨str bd, 1 + (varB size).length + (varB hs.length).length, none⟩ _ hlen rfl p2 r2
    have r3 := rest_after ⟨str bd, 1 + (varB size).length + (varB hs.length).length, none⟩ _ _ r2
    have p3 := rest_fits ⟨str bd, 1 + (varB size).length + (varB hs.length).length, none⟩ _ _ r2 p2
    rw [flat_len hs hlen] at r3 p3
    rw [d2]
    simp only at r3 p3 ⊢
    generalize hpp : 1 + (varB size).length + (varB hs.length).length + 32 * hs.length = pp at *
    have t3 := text_at (x := ⟨str bd, pp, none⟩) rfl p3 leaf.data.toList [] 65536 (by omega) (by omega) r3
    have r4 := rest_after ⟨str bd, pp, none⟩ _ _ r3
    have p4 := rest_fits ⟨str bd, pp, none⟩ _ _ r3 p3
    have r5 := rest_after ⟨str bd, pp + (varB leaf.data.toList.length).length, none⟩ _ _ r4
    have t4 : RdD.text ⟨str bd, pp, none⟩ 65536 = (leaf.data.toList, ⟨str bd, pp + (varB leaf.data.toList.length).length + leaf.data.toList.length, none⟩) := t3
    rw [t4]
    simp only at r5 ⊢
    have hfin : RdD.fin ⟨str bd, pp + (varB leaf.data.toList.length).length + leaf.data.toList.length, none⟩ = none := by
      have := rest_len ⟨str bd, pp + (varB leaf.data.toList.length).length + leaf.data.toList.length, none⟩
      rw [r5] at this
      unfold RdD.fin
      rw [if_neg (fun h => by have := h.2; simp only [List.length_nil] at *; omega)]
    rw [hfin, if_pos rfl, str_toList]
/-- A refusal says so. -/
theorem once_no (a : AnsD) (ha : a.Ok) (hb : ¬ a.bad) (he : ansE a ≠ none) : ansE a = some (4, none) ∧ ansB a = [] ∧ ¬ (a.leaf.size ≤ 65536 ∧ 32 * a.hs.length + a.leaf.size + 60 ≤ 1048576) := by
  by_cases hc : a.code ≠ 0
  · exact absurd (by unfold ansE; rw [if_neg hb, if_pos hc]) he
  · by_cases hl : 65536 < a.leaf.size ∨ 1048576 < a.hs.length
    · exact ⟨by unfold ansE; rw [if_neg hb, if_neg hc, if_pos hl], by unfold ansB; rw [if_neg hb, if_neg hc, if_pos hl], by omega⟩
    · by_cases hw : 1048576 < a.body.length
      · refine ⟨by unfold ansE; rw [if_neg hb, if_neg hc, if_neg hl]; unfold wholeE; rw [if_pos hw], by unfold ansB; rw [if_neg hb, if_neg hc, if_neg hl]; unfold wholeB; rw [if_pos hw], fun h => ?_⟩
        have h1 := varB_len a.size
        have h2 := varB_len a.hs.length
        have h3 := varB_len a.leaf.size
        have h4 : a.leaf.data.toList.length = a.leaf.size := by rw [Array.length_toList]; rfl
        have h5 := flat_len a.hs ha.len
        unfold AnsD.body at hw
        simp only [List.length_append, fixB_len] at hw
        omega
      · exact absurd (by unfold ansE; rw [if_neg hb, if_neg hc, if_neg hl]; unfold wholeE; rw [if_neg hw]) he
theorem once_bad (a : AnsD) (hb : a.bad) : ansE a = some (2, none) ∧ ansB a = [] := ⟨if_pos hb, if_pos hb⟩

theorem once_zero {s : ByteArray} {b : AnsD} {e : Nat × Option Int} (h : decA s = (b, some e)) : b = zeroA := by
  by_cases hl : 1048576 < s.size
  · unfold decA at h; rw [if_pos hl] at h; exact (Prod.mk.inj h).1.symm
  · cases hd : s.data.toList with
    | nil => unfold decA at h; rw [if_neg hl, hd] at h; exact (Prod.mk.inj h).1.symm
    | cons c l =>
      by_cases hc : 5 < c.toNat
      · unfold decA at h; rw [if_neg hl, hd] at h; simp only at h; rw [if_pos hc] at h; exact (Prod.mk.inj h).1.symm
      · rw [decA_cons s hl c l hd hc] at h
        simp only at h
        generalize (if c.toNat = 0 then decBody s else (⟨c.toNat, 0, [], ⟨#[]⟩⟩, ⟨s, 1, none⟩)) = r at h
        by_cases hf : r.2.fin = none
        · rw [if_pos hf] at h; exact absurd (Prod.mk.inj h).2 (by simp)
        · rw [if_neg hf] at h; exact (Prod.mk.inj h).1.symm
theorem decHs_get : ∀ (n : Nat) (x : RdD), (decHs n x).2.f = none → x.f = none ∧ (decHs n x).1.length = n ∧ (decHs n x).2 = { x with pos := x.pos + 32 * n } ∧ (decHs n x).1.flatten = x.rest.take (32 * n) ∧ (x.pos ≤ x.s.size → x.pos + 32 * n ≤ x.s.size)
  | 0, x, h => by simp [decHs] at h ⊢; exact h
  | n + 1, x, h => by
    unfold decHs at h ⊢
    split at h
    · rename_i hn; exact absurd h hn
    · rename_i hn
      rw [if_neg hn]
      obtain ⟨h1, h2, h3, h4, h5⟩ := decHs_get n x.hash.2 h
      obtain ⟨g1, g2, g3⟩ := hash_get h1
      rw [g3] at h3 h4 h5
      simp only at h3 h4 h5
      have hr : ({ x with pos := x.pos + 32 } : RdD).rest = x.rest.drop 32 := by
        unfold RdD.rest; simp only; rw [List.drop_drop]
      rw [hr] at h4
      refine ⟨g1, by simp [h2], ?_, ?_, fun hp => by have := h5 g2; omega⟩
      · simp only
        rw [g3, h3]
        congr 1
        omega
      · simp only [List.flatten_cons]
        rw [g3, h4]
        simp only
        rw [show 32 * (n + 1) = 32 + 32 * n by omega, List.take_add]
theorem u8_of (c : UInt8) : c.toNat.toUInt8 = c := by simp
/-- The bytes up to the place. -/
def RdD.done (x : RdD) : List UInt8 := x.s.data.toList.take x.pos
theorem var_got {x : RdD} (h : x.var.2.f = none) : x.f = none ∧ ∃ n y, x.var = (n, y) ∧ n < 18446744073709551616 ∧ y.s = x.s ∧ y.f = none ∧ y.done = x.done ++ varB n := by
  obtain ⟨h1, n, k, h2, h3⟩ := var_get h
  obtain ⟨h4, _⟩ := varB_numB h2
  refine ⟨h1, n, _, h3, ?_, rfl, h1, ?_⟩
  · have := var_small x; rw [h3] at this; exact this
  · unfold RdD.done; simp only; rw [take_rest, h4]
theorem decHs_got {n : Nat} {x : RdD} (h : (decHs n x).2.f = none) : x.f = none ∧ ∃ ls y, decHs n x = (ls, y) ∧ ls.length = n ∧ y.s = x.s ∧ y.f = none ∧ y.done = x.done ++ ls.flatten ∧ y.pos = x.pos + 32 * n := by
  obtain ⟨h1, h2, h3, h4, _⟩ := decHs_get n x h
  refine ⟨h1, (decHs n x).1, { x with pos := x.pos + 32 * n }, (show ((decHs n x).1, (decHs n x).2) = ((decHs n x).1, { x with pos := x.pos + 32 * n }) by rw [h3]), h2, rfl, h1, ?_, rfl⟩
  unfold RdD.done; simp only; rw [take_rest, h4]
theorem text_got {x : RdD} {m : Nat} (h : (x.text m).2.f = none) : x.f = none ∧ ∃ t y, x.text m = (t, y) ∧ t.length ≤ m ∧ y.s = x.s ∧ y.f = none ∧ y.done = x.done ++ (varB t.length ++ t) ∧ y.pos ≤ y.s.size := by
  obtain ⟨h1, n, k, h2, h3, h4, h5⟩ := text_get h
  obtain ⟨h6, h7⟩ := varB_numB h2
  have hl : ((x.rest.drop k).take n).length = n := by
    have hr := rest_len x
    rw [List.length_take, List.length_drop, hr]; omega
  refine ⟨h1, _, _, h5, by rw [hl]; omega, rfl, h1, ?_, h4⟩
  unfold RdD.done
  simp only
  rw [hl, show x.pos + k + n = x.pos + (k + n) by omega, take_rest, List.take_add, h6]
theorem once_read {s : ByteArray} {b : AnsD} (h : decA s = (b, none)) : b.Ok ∧ ansE b = none ∧ ansB b = s.data.toList := by
  have hlen : s.data.toList.length = s.size := by rw [Array.length_toList]; rfl
  by_cases hl : 1048576 < s.size
  · unfold decA at h; rw [if_pos hl] at h; cases h
  · cases hd : s.data.toList with
    | nil => unfold decA at h; rw [if_neg hl, hd] at h; cases h
    | cons c l =>
      by_cases hc : 5 < c.toNat
      · unfold decA at h; rw [if_neg hl, hd] at h; simp only at h; rw [if_pos hc] at h; cases h
      · rw [decA_cons s hl c l hd hc] at h
        rw [hd] at hlen
        by_cases h0 : c.toNat = 0
        · rw [if_pos h0] at h
          simp only at h
          split at h
          · rename_i hfin
            obtain rfl := (Prod.mk.inj h).1
            unfold decBody at hfin ⊢
            simp only at hfin ⊢
            have hx0s : RdD.done ⟨s, 1, none⟩ = [0] := by
              unfold RdD.done; simp only; rw [hd]; have : c = 0 := UInt8.toNat_inj.1 h0
              simp [this]
            obtain ⟨f2, tx, x4, e4, ht, s4, f4, d4, p4⟩ := text_got (m := 65536) (fin_none _ hfin)
            obtain ⟨f1, ls, x3, e3, l3, s3, f3, d3, p3⟩ := decHs_got f2
            obtain ⟨f0, n1, x2, e1, lt1, s2, f2', d2⟩ := var_got f1
            obtain ⟨_, n0, x1, e0, lt0, s1, f1', d1⟩ := var_got f0
            rw [e0] at e1 d2 s2
            simp only at e1 d2 s2
            rw [e0] at e3 d3 s3 l3 p3
            simp only at e3 d3 s3 l3 p3
            rw [e1] at e3 d3 s3 l3 p3
            simp only at e3 d3 s3 l3 p3
            rw [e0] at e4 d4 s4 hfin ⊢
            simp only at e4 d4 s4 hfin ⊢
            rw [e1] at e4 d4 s4 hfin ⊢
            simp only at e4 d4 s4 hfin ⊢
            rw [e3] at e4 d4 s4 hfin ⊢
            simp only at e4 d4 s4 hfin ⊢
            have e4' : x3.text 65536 = (tx, x4) := e4
            rw [e4'] at hfin ⊢
            simp only at hfin ⊢
            have hs4 : x4.s = s := by rw [s4, s3, s2, s1]
            have hend : x4.pos = s.size := by
              have : ¬ (x4.pos < x4.s.size) := fun hlt => by
                unfold RdD.fin at hfin
                rw [if_pos ⟨f4, hlt⟩] at hfin; cases hfin
              rw [hs4] at this p4
              omega
            have hall : s.data.toList = (AnsD.mk 0 n0 ls (str tx)).body := by
              have hfull : x4.done = s.data.toList := by
                unfold RdD.done; rw [hs4, hend]; exact List.take_of_length_le (by rw [hd, hlen]; exact Nat.le_refl _)
              rw [← hfull, d4, d3, d2, d1, hx0s]
              unfold AnsD.body
              rw [str_size, str_len, l3, fixB1 0 (by omega)]
              simp
            have hlsn : ∀ t ∈ ls, t.length = 32 := fun t ht => decHs_len n1 x2 t (by rw [e3]; exact ht)
            have hn1 : n1 ≤ 1048576 := by
              have h1 : (AnsD.mk 0 n0 ls (str tx)).body.length = s.size := by rw [← hall, hd, hlen]
              unfold AnsD.body at h1
              simp only [List.length_append] at h1
              have h2 := flat_len ls hlsn
              rw [l3] at h2
              omega
            have hok : (AnsD.mk 0 n0 ls (str tx)).Ok := by
              refine ⟨by simp, lt0, hlsn, ?_, ?_⟩
              · show ls.length ≤ _
                rw [l3]; omega
              · show (str _).size ≤ _
                rw [str_size]; omega
            have hbad : ¬ (AnsD.mk 0 n0 ls (str tx)).bad := fun hb => by
              rcases hb with hb | ⟨hb, _⟩
              · simp at hb
              · exact hb rfl
            have hc0 : ¬ (AnsD.mk 0 n0 ls (str tx)).code ≠ 0 := fun hb => hb rfl
            have hlim : ¬ (65536 < (AnsD.mk 0 n0 ls (str tx)).leaf.size ∨ 1048576 < (AnsD.mk 0 n0 ls (str tx)).hs.length) := by
              show ¬ (65536 < (str _).size ∨ 1048576 < ls.length)
              rw [str_size, l3]; omega
            have hbl : ¬ 1048576 < (AnsD.mk 0 n0 ls (str tx)).body.length := by
              rw [← hall, hd, hlen]; exact hl
            refine ⟨hok, ?_, ?_⟩
            · unfold ansE; rw [if_neg hbad, if_neg hc0, if_neg hlim]; unfold wholeE; rw [if_neg hbl]
            · unfold ansB; rw [if_neg hbad, if_neg hc0, if_neg hlim]; unfold wholeB; rw [if_neg hbl, ← hall, hd]
          · exact absurd (Prod.mk.inj h).2 ‹_›
        · rw [if_neg h0] at h
          simp only at h
          split at h
          · rename_i hfin
            obtain rfl := (Prod.mk.inj h).1
            have h256 := c.toNat_lt
            have hend : s.size = 1 := by
              unfold RdD.fin at hfin
              have : ¬ (1 < s.size) := fun hlt => by
                simp only at hfin
                rw [if_pos ⟨trivial, hlt⟩] at hfin; cases hfin
              simp at hlen; omega
            have hl0 : l = [] := by
              have : l.length = 0 := by simp at hlen; omega
              exact List.length_eq_zero_iff.1 this
            have hbad : ¬ (AnsD.mk c.toNat 0 [] ⟨#[]⟩).bad := fun hb => by
              rcases hb with hb | ⟨_, hb | hb | hb⟩
              · exact hc hb
              · exact hb rfl
              · simp at hb
              · exact hb rfl
            have hcc : (AnsD.mk c.toNat 0 [] ⟨#[]⟩).code ≠ 0 := h0
            refine ⟨⟨h256, by simp, fun t ht => (by cases ht), by simp, Nat.zero_le _⟩, ?_, ?_⟩
            · unfold ansE; rw [if_neg hbad, if_pos hcc]
            · unfold ansB; rw [if_neg hbad, if_pos hcc, fixB1 _ h256, hl0, u8_of]
          · exact absurd (Prod.mk.inj h).2 ‹_›
end Go.Proofs.YtljnhelnmnomoaaGreatDoor
