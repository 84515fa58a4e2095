/- The statements' stands of chapter 12 by a contract. The statements' does of chapter 12 by contracts, kind by kind. -/
import Derived.Test.YtdkhnkhflbefbaaGreatDoorDuo
import Derived.Test.YtdkhnkhflbefbaaGreatDoorTxt
namespace Go.Proofs.YtdkhnkhflbefbaaGreatDoor
open Go.RowKit Go.Lib Go.Sort


set_option maxRecDepth 8000 in
set_option maxHeartbeats 8000000 in
theorem stands_any {B : Nat} {w : World} {sb mb rb kb N : Nat} {tv av rtv btv : Value} {x : StD} {L : List HeldD} {C : Nat → List Value} (D : Duo B w sb mb rb tv av rtv x) (K : BkAt B w kb btv L C N) (hB : B ≤ w.heap.size) (hN : N ≤ 4000000) (hL : x.texts.length ≤ 4194304) :
    Calls Tryz.prog 12 #[.pointer (some ⟨sb, 0, none⟩), .pointer (some ⟨rb, 0, none⟩), .pointer (some ⟨kb, 0, none⟩)] w fun e w' => e = .returned (.bool true) ∧
      ∃ btv' L' C', BkAt B w' kb btv' L' C' (N + 1) ∧ Upd (fpB kb btv L) w w' := by
  have CN := names_any D.st (by omega)
  have HD := Lib.hid D
  have HK := Lib.hid K
  have HB := Lib.hid hB
  have HN := Lib.hid hN
  have HL := Lib.hid hL
  clear D K hB hN
  go_enter Tryz.func12, Tryz.ntmps12
  go_wp2_with fail
  refine CN.mono ?_
  rintro e w1 ⟨g, cap, rfl, hrow, u1⟩
  have HROW := Lib.hid hrow
  have HU1 := Lib.hid u1
  have hk1 := HK.out.ext u1
  have CT := texts_any hk1.blk hk1.hold (own_low hrow HB.out) (fun i h q hi hq hq2 => by
    have h1 := (hrow.lt q hq).1
    have h2 := ((HK.out.hold.own i h hi).lt q hq2).2
    omega) (Nat.le_trans HB.out u1.size) HN.out (by rw [HK.out.len]; exact HN.out)
  clear hrow u1 hk1 CN
  go_wp2_with fail
  refine CT.mono ?_
  rintro e w2 ⟨rfl, btv', hh, hb, u2⟩
  have HKK := Lib.hid (show BkAt B w2 kb btv' (L ++ [⟨.slice (some ⟨g, 0, none⟩) x.texts.length cap, .slice none 0 0, x.texts.length, N + 1⟩]) _ (N + 1) from
    ⟨hb, hh, HK.out.lo, by rw [List.length_append, HK.out.len]; rfl, fun i h hi => by
      rcases Nat.lt_or_ge i L.length with hlt | hge
      · rw [List.getElem?_append_left hlt] at hi
        have := HK.out.nums i h hi
        exact ⟨this.1, by omega, this.2.2⟩
      · rw [List.getElem?_append_right hge] at hi
        have h0 : i - L.length = 0 := by
          have := (List.getElem?_eq_some_iff.1 hi).1
          simp at this; omega
        rw [h0] at hi
        obtain rfl := Option.some.inj hi
        exact ⟨by have := HL.out; show x.texts.length ≤ _; omega, Nat.le_refl _, rfl⟩⟩)
  have HU2 := Lib.hid (show Upd (fpB kb btv L) w w2 from (Upd.ext HU1.out _).then (u2.mono (fun q _ hq => hq.elim .inl (fun h => .inr (.inl h)))) (fun _ _ h => h))
  have HD2 := Lib.hid (HD.out.upd HU2.out (fun q h1 h2 => duo_book HD.out HK.out h1 h2))
  have HR2 := Lib.hid (rows_upd HROW.out u2 (fun q hq e => by
    obtain ⟨c1, hc1⟩ := row_type HROW.out hq
    rcases e with e | e
    · exact ty_ne hc1 (HK.out.ext HU1.out).blk (by decide) e
    · obtain ⟨c2, hc2⟩ := row_type (HK.out.ext HU1.out).hold.row e
      exact ty_ne hc1 hc2 (by decide) rfl))
  have CC := counts_any HD2.out.st
  clear hh hb u2 CT
  go_wp2_with fail
  refine CC.mono ?_
  rintro e w3 ⟨rfl, u3⟩
  have HE3 := Lib.hid u3
  have CR := rcounts_any (HD2.out.ext u3).rs
  clear u3 CC
  go_wp2_with fail
  refine CR.mono ?_
  rintro e w4 ⟨rfl, u4⟩
  have HE4 := Lib.hid (HE3.out.trans u4)
  have CN := rnames_any (HD2.out.ext HE4.out).rs HL.out
  clear u4 CR
  go_wp2_with fail
  refine CN.mono ?_
  rintro e w5 ⟨A2, cap2, rfl, hrow2, u5⟩
  have HE5 := Lib.hid (HE4.out.trans u5)
  have CS := sameTexts_any (l := strs (namesL x.texts)) (texts_of_own (rows_upd HR2.out HE5.out (fun _ _ => id)) (key_le HD.out.st.tex)) (texts_of_ownA hrow2 (key_le HD.out.st.tex)) cap cap2 (by rw [names_len]; have := HL.out; omega)
  rw [names_len] at CS
  clear hrow2 u5 CN
  go_wp2_with fail
  refine CS.mono ?_
  rintro e w6 ⟨rfl, u6⟩
  have HE6 := Lib.hid (HE5.out.trans u6)
  have CD := dead_any (HD2.out.ext HE6.out).st
  clear u6 CS
  go_wp2_with fail
  refine CD.mono ?_
  rintro e w7 ⟨rfl, u7⟩
  have HE7 := Lib.hid (HE6.out.trans u7)
  have CQ := rdead_any (HD2.out.ext HE7.out).rs
  clear u7 CD
  go_wp2_with fail
  refine CQ.mono ?_
  rintro e w8 ⟨rfl, u8⟩
  have HE8 := Lib.hid (HE7.out.trans u8)
  clear u8 CQ
  go_wp2_with fail
  go_ret
  exact ⟨by simp, btv', _, _, HKK.out.ext HE8.out, HU2.out.thenExt HE8.out⟩

theorem sameF (x : EV) (h : ∀ k p, x = some (k, p) → p = none) : sameB x (faultC x) (faultA x) = true := by
  match x with
  | none => rfl
  | some (k, p) =>
    obtain rfl := h k p rfl
    unfold sameB faultC faultA codeOf placed
    simp
theorem evS_plain (se : Nat → Addr) (w : World) (x : EV) (h : ∀ k p, x = some (k, p) → 1 ≤ k ∧ k ≤ 16 ∧ p = none) : ErrIs se w (evS se x) x := evS_is se w x h
theorem put_err (x : StD) (s t : ByteArray) : ∀ k p, (x.put s t).2 = some (k, p) → 1 ≤ k ∧ k ≤ 16 ∧ p = none := fun k p h => by
  unfold StD.put at h
  split at h
  · rename_i e he
    obtain rfl := Option.some.inj h
    exact refuse_some x s _ he
  · split at h
    · obtain ⟨rfl, rfl⟩ : 8 = k ∧ none = p := by simpa using h
      exact ⟨by decide, by decide, rfl⟩
    · split at h
      · obtain ⟨rfl, rfl⟩ : 8 = k ∧ none = p := by simpa using h
        exact ⟨by decide, by decide, rfl⟩
      · cases h
theorem get_err (x : StD) (s : ByteArray) : ∀ k p, (x.get s).2.2 = some (k, p) → 1 ≤ k ∧ k ≤ 16 ∧ p = none := fun k p h => by
  unfold StD.get at h
  split at h
  · rename_i e he
    obtain rfl := Option.some.inj h
    exact refuse_some x s _ he
  · split at h
    · obtain ⟨rfl, rfl⟩ : 7 = k ∧ none = p := by simpa using h
      exact ⟨by decide, by decide, rfl⟩
    · dsimp only at h
      split at h
      · cases h
      · obtain ⟨rfl, rfl⟩ : 6 = k ∧ none = p := by simpa using h
        exact ⟨by decide, by decide, rfl⟩
/-- How the store stands behind a call of that kind. -/
def StD.does (x : StD) (k : Int) (nm tx : ByteArray) (zs : List Int) (c : Int) : StD :=
  if k = 1 then (x.put nm tx).1 else if k = 2 then (x.get nm).1 else if k = 3 then (if mayR zs then x.take zs c else x) else x
/-- So many calls have been made at most. -/
structure StD.Few (x : StD) (n : Nat) : Prop where
  texts : x.texts.length ≤ n
  nr : x.nr ≤ n
  nw : x.nw ≤ n
  rs : x.rs.length ≤ 1099511627776
theorem few_put {x : StD} {n : Nat} (h : x.Few n) (s t : ByteArray) : (x.put s t).1.Few (n + 1) := by
  have hl : ∀ {L : TxtL}, L.length ≤ n → (putL L s t).length ≤ n + 1 := fun hL => by rw [putL_len]; split <;> omega
  have h1 := h.texts
  have h2 := h.nr
  have h3 := h.nw
  unfold StD.put
  split
  · exact ⟨Nat.le_succ_of_le h1, Nat.le_succ_of_le h2, Nat.le_succ_of_le h3, h.rs⟩
  · split
    · exact ⟨Nat.le_succ_of_le h1, Nat.le_succ_of_le h2, Nat.succ_le_succ h3, h.rs⟩
    · split
      · exact ⟨hl h1, Nat.le_succ_of_le h2, Nat.succ_le_succ h3, h.rs⟩
      · exact ⟨hl h1, Nat.le_succ_of_le h2, Nat.succ_le_succ h3, h.rs⟩
theorem few_get {x : StD} {n : Nat} (h : x.Few n) (s : ByteArray) : (x.get s).1.Few (n + 1) := by
  have h1 := h.texts
  have h2 := h.nr
  have h3 := h.nw
  unfold StD.get
  split
  · exact ⟨Nat.le_succ_of_le h1, Nat.le_succ_of_le h2, Nat.le_succ_of_le h3, h.rs⟩
  · split
    · exact ⟨Nat.le_succ_of_le h1, Nat.succ_le_succ h2, Nat.le_succ_of_le h3, h.rs⟩
    · exact ⟨Nat.le_succ_of_le h1, Nat.succ_le_succ h2, Nat.le_succ_of_le h3, h.rs⟩
theorem few_does {x : StD} {n : Nat} (h : x.Few n) (k : Int) (nm tx : ByteArray) (zs : List Int) (c : Int) (hz : zs.length ≤ 1099511627776) : (x.does k nm tx zs c).Few (n + 1) := by
  have h' : x.Few (n + 1) := ⟨Nat.le_succ_of_le h.texts, Nat.le_succ_of_le h.nr, Nat.le_succ_of_le h.nw, h.rs⟩
  unfold StD.does
  split
  · exact few_put h nm tx
  · split
    · exact few_get h nm
    · split
      · split
        · exact ⟨h'.texts, Nat.zero_le _, Nat.zero_le _, hz⟩
        · exact h'
      · exact h'
def DoesPost (w0 : World) (sb mb rb kb N : Nat) (tv av rtv : Value) (btv : Value) (L : List HeldD) (w : World) (x' : StD) (e : Ending) (w' : World) : Prop :=
  e = .returned (.bool true) ∧ ∃ tv' av' rtv' btv' L' C' N', Duo w0.heap.size w' sb mb rb tv' av' rtv' x' ∧ (∀ g, fpD sb mb rb tv' av' rtv' g → fpD sb mb rb tv av rtv g ∨ w.heap.size ≤ g) ∧
    BkAt w0.heap.size w' kb btv' L' C' N' ∧ N' ≤ N + 1 ∧ Upd (fun g => fpD sb mb rb tv av rtv g ∨ fpB kb btv L g) w w'
set_option maxRecDepth 20000 in
set_option maxHeartbeats 16000000 in
theorem does_put {B : Nat} {se : Nat → Addr} {w0 w : World} (G : Genv B se w0) (E : Ext w0 w) {sb mb rb kb N : Nat} {tv av rtv btv : Value} {x : StD} {L : List HeldD} {C : Nat → List Value} (D : Duo w0.heap.size w sb mb rb tv av rtv x) (K : BkAt w0.heap.size w kb btv L C N)
    (hF : x.Few 4194303) (nm tx : ByteArray) (h1 : nm.size ≤ maxLen) (h2 : tx.size ≤ maxLen) (a : Option Addr) (n cap : Nat) (c : Int) :
    Calls Tryz.prog 11 #[.pointer (some ⟨sb, 0, none⟩), .pointer (some ⟨rb, 0, none⟩), .agg #[.int .i64 1, .string nm, .string tx, .slice a n cap, .int .i64 c], .pointer (some ⟨kb, 0, none⟩)] w (DoesPost w0 sb mb rb kb N tv av rtv btv L w (x.put nm tx).1) := by
  have X := (Upd.refl none' w).alloc (.cells #[.int .i64 1, .string nm, .string tx, .slice a n cap, .int .i64 c] 61)
  have hq := blk_alloc w (.cells #[.int .i64 1, .string nm, .string tx, .slice a n cap, .int .i64 c] 61)
  have HX := Lib.hid X
  have HQ := Lib.hid hq
  have HD := Lib.hid D
  have HK := Lib.hid K
  have HG := Lib.hid G
  have HE := Lib.hid E
  have HF := Lib.hid hF
  have q0 : World.cell? _ ⟨w.heap.size, 0, none⟩ = some (.int .i64 1) := cell_of_blk HQ.out 0
  have q1 : World.cell? _ ⟨w.heap.size, 1, none⟩ = some (.string nm) := cell_of_blk HQ.out 1
  have q2 : World.cell? _ ⟨w.heap.size, 2, none⟩ = some (.string tx) := cell_of_blk HQ.out 2
  have HS := Lib.hid (show nm.size ≤ maxLen ∧ tx.size ≤ maxLen from ⟨h1, h2⟩)
  have HW : Hid (∀ g, fpD sb mb rb tv av rtv g → g ≠ w.heap.size) := Lib.hid (fun g hg e => by have := HD.out.lt g hg; omega)
  clear X hq D K G E hF h1 h2
  generalize hW : w.alloc (.cells #[.int .i64 1, .string nm, .string tx, .slice a n cap, .int .i64 c] 61) = W at *
  generalize hqq : w.heap.size = q at q0 q1 q2 HQ HW
  have HQE := Lib.hid hqq
  have HD0 := Lib.hid (HD.out.ext (HX.out.drew))
  have HE0 := Lib.hid (HE.out.trans HX.out.drew)
  have CP := put_any (HG.out.ext HE0.out) HD0.out.st (Nat.le_trans HG.out.size (HD.out.lo _ (.inl rfl))) (Nat.le_trans HG.out.size (HD.out.lo _ (.inr (.inl rfl)))) nm tx HS.out.1 HS.out.2 (by have := HF.out.nw; omega) (by have := HF.out.texts; omega)
  have HPE := Lib.hid (put_err x nm tx)
  have HCR := Lib.hid (fun (w1 : World) (h : RStAt w0.heap.size w1 rb av rtv x) (hz : w0.heap.size ≤ w1.heap.size) => rput_any h hz nm tx HS.out.1 (by have := HF.out.nw; omega) (by have := HF.out.texts; omega))
  generalize x.put nm tx = r at *
  go_enter Tryz.func11, Tryz.ntmps11
  go_wp2_with fail
  go_region_held3 (fun w' => w'.cell? ⟨q, 1, none⟩ = some (.string nm) ∧ w'.cell? ⟨q, 2, none⟩ = some (.string tx))
    (first
      | exact ⟨q1, q2⟩
      | exact ⟨cell_of_blk HQ1.out 1, cell_of_blk HQ1.out 2⟩
      | exact ⟨cell_of_blk HQ2.out 1, cell_of_blk HQ2.out 2⟩
      | exact ⟨cell_of_blk HQ3.out 1, cell_of_blk HQ3.out 2⟩)
    ((first
      | (go_at_call 24
         refine CP.mono ?_
         rintro e w1 ⟨rfl, hst1, u1⟩
         have HST1 := Lib.hid hst1
         have HU1 := Lib.hid u1
         have HR1 := Lib.hid (HD0.out.rs.upd u1 HD0.out.sepS.1 HD0.out.sepS.2.1 HD0.out.sepS.2.2)
         have HE1 := Lib.hid (ext_then HE0.out u1 (fun g hg => HD.out.lo g (hg.elim .inl (fun h => .inr (.inl h)))))
         have HQ1 := Lib.hid (u1.blk (Ext.blk (Upd.refl none' W).drew HQ.out) (fun h => h.elim (fun e => HW.out sb (.inl rfl) e.symm) (fun e => HW.out mb (.inr (.inl rfl)) e.symm)))
         clear hst1 u1)
      | (go_at_call 31
         refine (HCR.out _ HR1.out HE1.out.size).mono ?_
         rintro e w2 ⟨rfl, av2, hr2, hav, u2⟩
         have HST2 := Lib.hid (HST1.out.upd u2 (Duo.sepR HST1.out HR1.out sb (.inl rfl)) (Duo.sepR HST1.out HR1.out mb (.inr (.inl rfl))) (fun g hg => Duo.sepR HST1.out HR1.out g (.inr (.inr hg))))
         have HR2 := Lib.hid hr2
         have HAV := Lib.hid hav
         have HU2 := Lib.hid u2
         have HE2 := Lib.hid (ext_then HE1.out u2 (fun g hg => HD.out.lo g (hg.elim (fun h => .inr (.inr (.inl h))) (fun h => .inr (.inr (.inr (.inr (.inl h))))))))
         have HQ2 := Lib.hid (u2.blk HQ1.out (fun h => h.elim (fun e => HW.out rb (.inr (.inr (.inl rfl))) e.symm) (fun e => HW.out q (.inr (.inr (.inr (.inr (.inl e))))) rfl)))
         clear hr2 hav u2)
      | (go_at_call 8
         refine (same_any (HG.out.ext HE2.out) (evS_plain se _ r.2 HPE.out) (faultC r.2) (faultA r.2)).mono ?_
         rintro e w3 ⟨rfl, u3⟩
         have HU3 := Lib.hid u3
         have HQ3 := Lib.hid (Ext.blk u3 HQ2.out)
         clear u3)))
  rw [sameF r.2 (fun k p h => (HPE.out k p h).2.2)]
  go_wp2_with fail
  go_ret
  have hm1 : Upd (fpD sb mb rb tv av rtv) W.drew w1 := HU1.out.mono (fun g _ h => h.elim .inl (fun h => .inr (.inl h)))
  have hm2 : Upd (fpD sb mb rb tv av rtv) w1 w2 := HU2.out.mono (fun g _ h => h.elim (fun h => .inr (.inr (.inl h))) (fun h => .inr (.inr (.inr (.inr (.inl h))))))
  have hU : Upd (fpD sb mb rb tv av rtv) w w3 := (((Upd.ext HX.out.drew _).then hm1 (fun _ _ h => h)).then hm2 (fun _ _ h => h)).thenExt HU3.out
  have hsz : w.heap.size ≤ w1.heap.size := Nat.le_trans HX.out.drew.size HU1.out.size
  refine ⟨rfl, tv, av2, rtv, btv, L, C, N, ⟨HST2.out.ext HU3.out, HR2.out.ext HU3.out, fun g hg => ?_⟩, fun g hg => ?_, HK.out.upd hU (fun g h1 h2 => duo_book HD.out HK.out h2 h1), Nat.le_succ _, hU.mono (fun _ _ h => .inl h)⟩
  · rcases hg with h | h | h | h | h | h
    · exact HD.out.lo g (.inl h)
    · exact HD.out.lo g (.inr (.inl h))
    · exact HD.out.lo g (.inr (.inr (.inl h)))
    · exact HD.out.lo g (.inr (.inr (.inr (.inl h))))
    · rcases HAV.out g h with h | h
      · exact HD.out.lo g (.inr (.inr (.inr (.inr (.inl h)))))
      · have := HE.out.size; omega
    · exact HD.out.lo g (.inr (.inr (.inr (.inr (.inr h)))))
  · rcases hg with h | h | h | h | h | h
    · exact .inl (.inl h)
    · exact .inl (.inr (.inl h))
    · exact .inl (.inr (.inr (.inl h)))
    · exact .inl (.inr (.inr (.inr (.inl h))))
    · rcases HAV.out g h with h | h
      · exact .inl (.inr (.inr (.inr (.inr (.inl h)))))
      · exact .inr (Nat.le_trans hsz h)
    · exact .inl (.inr (.inr (.inr (.inr (.inr h)))))
set_option maxRecDepth 20000 in
set_option maxHeartbeats 16000000 in
theorem does_get {B : Nat} {se : Nat → Addr} {w0 w : World} (G : Genv B se w0) (E : Ext w0 w) {sb mb rb kb N : Nat} {tv av rtv btv : Value} {x : StD} {L : List HeldD} {C : Nat → List Value} (D : Duo w0.heap.size w sb mb rb tv av rtv x) (K : BkAt w0.heap.size w kb btv L C N)
    (hF : x.Few 4194303) (nm tx : ByteArray) (h1 : nm.size ≤ maxLen) (a : Option Addr) (n cap : Nat) (c : Int) :
    Calls Tryz.prog 11 #[.pointer (some ⟨sb, 0, none⟩), .pointer (some ⟨rb, 0, none⟩), .agg #[.int .i64 2, .string nm, .string tx, .slice a n cap, .int .i64 c], .pointer (some ⟨kb, 0, none⟩)] w (DoesPost w0 sb mb rb kb N tv av rtv btv L w (x.get nm).1) := by
  have X := (Upd.refl none' w).alloc (.cells #[.int .i64 2, .string nm, .string tx, .slice a n cap, .int .i64 c] 61)
  have hq := blk_alloc w (.cells #[.int .i64 2, .string nm, .string tx, .slice a n cap, .int .i64 c] 61)
  have HX := Lib.hid X
  have HQ := Lib.hid hq
  have HD := Lib.hid D
  have HK := Lib.hid K
  have HG := Lib.hid G
  have HE := Lib.hid E
  have q0 : World.cell? _ ⟨w.heap.size, 0, none⟩ = some (.int .i64 2) := cell_of_blk HQ.out 0
  have q1 : World.cell? _ ⟨w.heap.size, 1, none⟩ = some (.string nm) := cell_of_blk HQ.out 1
  have HW : Hid (∀ g, fpD sb mb rb tv av rtv g → g ≠ w.heap.size) := Lib.hid (fun g hg e => by have := HD.out.lt g hg; omega)
  generalize hW : w.alloc (.cells #[.int .i64 2, .string nm, .string tx, .slice a n cap, .int .i64 c] 61) = W at *
  generalize hqq : w.heap.size = q at q0 q1 HQ HW
  have HD0 := Lib.hid (HD.out.ext HX.out)
  have HE0 := Lib.hid (HE.out.trans HX.out)
  have CP := get_any (HG.out.ext HE0.out) HD0.out.st (Nat.le_trans HG.out.size (HD.out.lo _ (.inl rfl))) nm h1 (by have := hF.nr; omega) (by have := hF.rs; omega)
  have HPE := Lib.hid (get_err x nm)
  have HCR := Lib.hid (fun (w1 : World) (h : RStAt w0.heap.size w1 rb av rtv x) => rget_any h nm h1 (by have := hF.nr; omega) (by have := hF.rs; omega) (by have := hF.texts; omega))
  clear X hq D K G E hF h1
  generalize x.get nm = r at *
  have HSF := Lib.hid (sameF r.2.2 (fun k p h => (HPE.out k p h).2.2))
  go_enter Tryz.func11, Tryz.ntmps11
  go_wp2_with fail
  refine CP.mono ?_
  rintro e w1 ⟨rfl, hst1, u1⟩
  have HST1 := Lib.hid hst1
  have HU1 := Lib.hid u1
  have u1' : Upd (two sb mb) W w1 := u1.mono (fun _ _ h => .inl h)
  have HR1 := Lib.hid (HD0.out.rs.upd u1' HD0.out.sepS.1 HD0.out.sepS.2.1 HD0.out.sepS.2.2)
  have HE1 := Lib.hid (ext_then HE0.out u1 (fun g hg => HD.out.lo g (.inl hg)))
  have HQ1 := Lib.hid (u1.blk HQ.out (fun e => HW.out sb (.inl rfl) e.symm))
  have q0 : w1.cell? ⟨q, 0, none⟩ = some (.int .i64 2) := cell_of_blk HQ1.out 0
  have q1 : w1.cell? ⟨q, 1, none⟩ = some (.string nm) := cell_of_blk HQ1.out 1
  have CR := HCR.out w1 HR1.out
  clear hst1 u1 u1' CP HCR
  go_wp2_with fail
  refine CR.mono ?_
  rintro e w2 ⟨he, hr2, u2⟩
  obtain ⟨fc, hfc⟩ : ∃ fc, faultC r.2.2 = fc := ⟨_, rfl⟩
  obtain ⟨fa, hfa⟩ : ∃ fa, faultA r.2.2 = fa := ⟨_, rfl⟩
  simp only [faultV] at he
  rw [hfc, hfa] at he HSF
  subst he
  have HST2 := Lib.hid (HST1.out.upd u2 (fun e => Duo.sepR HST1.out HR1.out sb (.inl rfl) (.inl e)) (fun e => Duo.sepR HST1.out HR1.out mb (.inr (.inl rfl)) (.inl e)) (fun g hg e => Duo.sepR HST1.out HR1.out g (.inr (.inr hg)) (.inl e)))
  have HR2 := Lib.hid hr2
  have HU2 := Lib.hid u2
  have HE2 := Lib.hid (ext_then HE1.out u2 (fun g hg => HD.out.lo g (.inr (.inr (.inl hg)))))
  have HA := Lib.hid ((Upd.refl none' w2).alloc (.cells #[.int .i64 fc, .int .i64 fa] 35))
  clear hr2 u2 CR hfc hfa
  go_wp2_with fail
  refine (same_any (HG.out.ext (HE2.out.trans HA.out)) (evS_plain se _ r.2.2 HPE.out) fc fa).mono ?_
  rintro e w3 ⟨rfl, u3⟩
  rw [HSF.out]
  have HU3 := Lib.hid (HA.out.trans u3)
  clear u3
  go_wp2_with fail
  go_ret
  have hm1 : Upd (fpD sb mb rb tv av rtv) W w1 := HU1.out.mono (fun g _ h => .inl h)
  have hm2 : Upd (fpD sb mb rb tv av rtv) w1 w2 := HU2.out.mono (fun g _ h => .inr (.inr (.inl h)))
  have hU : Upd (fpD sb mb rb tv av rtv) w w3 := (((Upd.ext HX.out _).then hm1 (fun _ _ h => h)).then hm2 (fun _ _ h => h)).thenExt HU3.out
  exact ⟨rfl, tv, av, rtv, btv, L, C, N, ⟨HST2.out.ext HU3.out, HR2.out.ext HU3.out, HD.out.lo⟩, fun g hg => .inl hg, HK.out.upd hU (fun g h1 h2 => duo_book HD.out HK.out h2 h1), Nat.le_succ _, hU.mono (fun _ _ h => .inl h)⟩
set_option maxRecDepth 20000 in
set_option maxHeartbeats 16000000 in
theorem does_stands {B : Nat} {se : Nat → Addr} {w0 w : World} (E : Ext w0 w) {sb mb rb kb N : Nat} {tv av rtv btv : Value} {x : StD} {L : List HeldD} {C : Nat → List Value} (D : Duo w0.heap.size w sb mb rb tv av rtv x) (K : BkAt w0.heap.size w kb btv L C N)
    (hF : x.Few 4194303) (hN : N ≤ 4000000) (k : Int) (hk1 : k ≠ 1) (hk2 : k ≠ 2) (hk3 : k ≠ 3) (nm tx : ByteArray) (a : Option Addr) (n cap : Nat) (c : Int) :
    Calls Tryz.prog 11 #[.pointer (some ⟨sb, 0, none⟩), .pointer (some ⟨rb, 0, none⟩), .agg #[.int .i64 k, .string nm, .string tx, .slice a n cap, .int .i64 c], .pointer (some ⟨kb, 0, none⟩)] w (DoesPost w0 sb mb rb kb N tv av rtv btv L w x) := by
  have X := (Upd.refl none' w).alloc (.cells #[.int .i64 k, .string nm, .string tx, .slice a n cap, .int .i64 c] 61)
  have HX := Lib.hid X
  have HD := Lib.hid D
  have HK := Lib.hid K
  have q0 : World.cell? _ ⟨w.heap.size, 0, none⟩ = some (.int .i64 k) := cell_of_blk (blk_alloc w (.cells #[.int .i64 k, .string nm, .string tx, .slice a n cap, .int .i64 c] 61)) 0
  have CS := stands_any (D.ext X) (K.ext X) (E.trans X).size hN (by have := hF.texts; omega)
  have b1 : (k == 1) = false := by simpa using hk1
  have b2 : (k == 2) = false := by simpa using hk2
  have b3 : (k == 3) = false := by simpa using hk3
  clear X D K E hF hN hk1 hk2 hk3
  go_enter Tryz.func11, Tryz.ntmps11
  go_wp2_with fail
  refine CS.mono ?_
  rintro e w1 ⟨rfl, btv', L', C', hk, u⟩
  have HK1 := Lib.hid hk
  have HU := Lib.hid ((Upd.ext HX.out (fpB kb btv L)).trans u)
  clear hk u CS
  go_wp2_with fail
  go_ret
  exact ⟨rfl, tv, av, rtv, btv', L', C', N + 1, HD.out.upd HU.out (fun g h1 h2 => duo_book HD.out HK.out h1 h2), fun g hg => .inl hg, HK1.out, Nat.le_refl _, HU.out.mono (fun _ _ h => .inr h)⟩
end Go.Proofs.YtdkhnkhflbefbaaGreatDoor
