/- The walk of CodecWrites. -/
import Derived.Test.YtkabomkikbdigaaDoorFour
import Derived.Test.YtkabomkikbdigaaDoorInv
import Derived.Test.YtkabomkikbdigaaDoorTaken
import Derived.Test.YtkabomkikbdigaaDoorStays
import Derived.StillTailTactics
import Derived.Deep.CutRange
namespace Go.Proofs.YtkabomkikbdigaaDoor
open Go.RowKit Go.Lib

theorem ErrIs.away {se : Nat → Addr} {w : World} {v : Value} {e : EV} (h : ErrIs se w v e) {b : Nat} {c : Array Value} {T : TypeId} {f : Nat × Nat} (hb : w.heap[b]? = some (.cells c T f)) (hT : T ≠ 96) : ErrIn v (fun p => ¬ one b p) := fun p hp hq => by
  have e1 : p = b := hq
  subst e1
  match e, h with
  | none, h => rw [show v = .nilIface from h] at hp; cases hp
  | some (_, none), ⟨_, _, e⟩ => rw [e] at hp; simp [sv] at hp
  | some (_, some _), ⟨_, _, _, e, h3⟩ =>
    rw [e] at hp
    simp at hp
    subst hp
    rw [hb] at h3
    simp only [Option.some.injEq, Obj.cells.injEq] at h3
    exact hT h3.2.1
theorem str_add (a b : List UInt8) : str a ++ str b = str (a ++ b) := by
  apply ByteArray.ext
  apply Array.ext'
  simp
theorem wE_ok (k : Nat) (t : ThingD) : ∀ j n, wE k t = some (j, some n) → 1 ≤ j ∧ 0 ≤ n := by
  intro j n h
  unfold wE formE idleE at h
  split at h <;> split at h <;> simp at h
theorem ptr_size : (Tryd.prog.info? 26).map (·.size) = some 1 := by kernel_rfl
theorem str_size1 : (Tryd.prog.info? 9).map (·.size) = some 1 := by kernel_rfl
theorem body_same : hasBody Tryd.prog 18 = true := by kernel_rfl
theorem body_done : hasBody Tryd.prog 19 = true := by kernel_rfl
theorem ext_drew (w : World) : Ext w w.drew := (Upd.refl none' w).drew
/-- What the loop keeps. -/
structure WAt (n : Nat) (A : Nat → Prop) (se : Nat → Addr) (w w' : World) (a0 a1 a3 sb qb : Nat) (x : Nat → List UInt8) : Prop where
  four : Four n A se w w' a0 a1 a3 x
  sbk : w'.heap[sb]? = some (.cells (ptrRow a0 a1 a3) 26 (0, 0))
  qbk : w'.heap[qb]? = some (.cells (wantRow x) 32 (0, 0))
  nsb : ¬ A sb
  nqb : ¬ A qb
/-- The blocks' places. -/
structure WPl (n a3 sb qb : Nat) : Prop where
  q : n ≤ qb
  q3 : qb ≠ a3
  qs : qb ≠ sb
theorem WAt.upd {n : Nat} {A S : Nat → Prop} {se : Nat → Addr} {w w1 w2 : World} {a0 a1 a3 sb qb : Nat} {x : Nat → List UInt8} (h : WAt n A se w w1 a0 a1 a3 sb qb x) (u : Upd S w1 w2) (hS : ∀ k, S k → n ≤ k ∧ ¬ A k ∧ k ≠ a3 ∧ k ≠ sb ∧ k ≠ qb) : WAt n A se w w2 a0 a1 a3 sb qb x :=
  ⟨h.four.upd u (fun k hk => ⟨(hS k hk).1, (hS k hk).2.1, (hS k hk).2.2.1⟩), u.blk h.sbk (fun hk => (hS _ hk).2.2.2.1 rfl), u.blk h.qbk (fun hk => (hS _ hk).2.2.2.2 rfl), h.nsb, h.nqb⟩
theorem WAt.ext {n : Nat} {A : Nat → Prop} {se : Nat → Addr} {w w1 w2 : World} {a0 a1 a3 sb qb : Nat} {x : Nat → List UInt8} (h : WAt n A se w w1 a0 a1 a3 sb qb x) (u : Ext w1 w2) : WAt n A se w w2 a0 a1 a3 sb qb x := h.upd u (fun _ hk => hk.elim)
abbrev fcells (x : EV) : List Value := [.int .i64 (faultC x), .int .i64 (faultA x)]
theorem fault_size : (Tryd.prog.info? 39).map (·.size) = some 2 := by kernel_rfl
theorem one_fault (e : EV) : ∀ u ∈ fcells e, u.oneCell' = true := by
  intro u hu
  simp only [fcells, List.mem_cons, List.not_mem_nil, or_false] at hu
  rcases hu with rfl | rfl <;> rfl
/-- The middle of a round. -/
structure WMid (n : Nat) (A : Nat → Prop) (se : Nat → Addr) (w w' : World) (a0 a1 a3 sb qb g7 g10 : Nat) (x : Nat → List UInt8) (t : ThingD) (e : EV) : Prop where
  wat : WAt n A se w w' a0 a1 a3 sb qb x
  tk : w'.heap[g7]? = some (.cells (thingCells t).toArray 36 (0, 0))
  fk : w'.heap[g10]? = some (.cells (fcells e).toArray 39 (0, 0))
  n7 : ¬ A g7
  n10 : ¬ A g10
theorem WMid.ext {n : Nat} {A : Nat → Prop} {se : Nat → Addr} {w w1 w2 : World} {a0 a1 a3 sb qb g7 g10 : Nat} {x : Nat → List UInt8} {t : ThingD} {e : EV} (h : WMid n A se w w1 a0 a1 a3 sb qb g7 g10 x t e) (u : Ext w1 w2) : WMid n A se w w2 a0 a1 a3 sb qb g7 g10 x t e :=
  ⟨h.wat.ext u, Ext.blk u h.tk, Ext.blk u h.fk, h.n7, h.n10⟩
theorem WMid.fault {n : Nat} {A : Nat → Prop} {se : Nat → Addr} {w w1 : World} {a0 a1 a3 sb qb g7 g10 : Nat} {x : Nat → List UInt8} {t : ThingD} {e : EV} (h : WMid n A se w w1 a0 a1 a3 sb qb g7 g10 x t e) (e2 : EV) (h1 : n ≤ g10) (h2 : g10 ≠ a3 ∧ g10 ≠ sb ∧ g10 ≠ qb ∧ g10 ≠ g7) :
    WMid n A se w (w1.setRow g10 (over (fcells e) 0 (fcells e2)).toArray) a0 a1 a3 sb qb g7 g10 x t e2 := by
  rw [over_all (fcells e) (fcells e2) rfl]
  have u := (Upd.refl (one g10) w1).setRow (.inr (show one _ _ from rfl)) (fcells e2).toArray
  exact ⟨h.wat.upd u (fun k hk => by have e : k = g10 := hk; subst e; exact ⟨h1, h.n10, h2.1, h2.2.1, h2.2.2.1⟩), u.blk h.tk (fun hk => h2.2.2.2 (Eq.symm hk)), blk_setRow h.fk _, h.n7, h.n10⟩
set_option maxRecDepth 8000 in
set_option maxHeartbeats 4000000 in
/-- CodecWrites. -/
theorem writes_any {B : Nat} {se : Nat → Addr} {w : World} (G : Genv B se w) {a : Option Addr} {ts : List ThingD} (ca : Nat) (hx : ThingsAt w a ts) (hb : bulks.weight ts ≤ 1048576) :
    Calls Tryd.prog 4 #[.slice a ts.length ca] w fun e w' => e = .returned (.bool true) ∧ Ext w w' := by
  have HG := Lib.hid G
  have HXS := Lib.hid hx
  have HB := Lib.hid hb
  have F0 := Four.start G
  have HF0 := Lib.hid F0
  have hll : ts.length ≤ 9223372036854775807 := by have := bulks.weight_len ts; omega
  clear G hx hb F0
  go_enter Tryd.func4, Tryd.ntmps4
  go_wp2_with fail
  refine (newWriter_ok w).mono ?_
  rintro e w1 ⟨rfl, rfl⟩
  go_wp2_with fail
  refine (newWriter_ok _).mono ?_
  rintro e w1 ⟨rfl, rfl⟩
  go_wp2_with fail
  have ST : WAt w.heap.size (fun k => k = w.heap.size ∨ k = w.heap.size + 1) se w _ w.heap.size (w.heap.size + 1) (w.heap.size + 1 + 1) (w.heap.size + 1 + 1 + 1) (w.heap.size + 1 + 1 + 1 + 1) (fun _ => []) :=
    ⟨(HF0.out.ext ((Upd.refl none' _).alloc (.cells (ptrRow w.heap.size (w.heap.size + 1) (w.heap.size + 2)) 26))).ext ((Upd.refl none' _).alloc (.cells (wantRow fun _ => []) 32)),
      by
        have := blk_alloc_lt (blk_alloc (((w.alloc (.cells #[.slice none 0 0, .bool true] 30)).alloc (.cells #[.slice none 0 0, .bool true] 30)).alloc (.cells #[.slice none 0 0, .bool false] 30)) (.cells (ptrRow w.heap.size (w.heap.size + 1) (w.heap.size + 2)) 26)) (.cells (wantRow fun _ => []) 32)
        simpa using this,
      by
        have := blk_alloc ((((w.alloc (.cells #[.slice none 0 0, .bool true] 30)).alloc (.cells #[.slice none 0 0, .bool true] 30)).alloc (.cells #[.slice none 0 0, .bool false] 30)).alloc (.cells (ptrRow w.heap.size (w.heap.size + 1) (w.heap.size + 2)) 26)) (.cells (wantRow fun _ => []) 32)
        simpa using this,
      by omega, by omega⟩
  have HST := Lib.hid ST
  have HPL := Lib.hid (show WPl w.heap.size (w.heap.size + 1 + 1) (w.heap.size + 1 + 1 + 1) (w.heap.size + 1 + 1 + 1 + 1) from ⟨by omega, by omega, by omega⟩)
  clear ST HF0
  generalize (fun k => k = w.heap.size ∨ k = w.heap.size + 1) = A0 at HST
  generalize w.heap.size + 1 + 1 + 1 + 1 = qb at HST HPL ⊢
  generalize w.heap.size + 1 + 1 + 1 = sb at HST HPL ⊢
  generalize w.heap.size + 1 + 1 = a3 at HST HPL ⊢
  go_loopw [6] (fun iv wr => ∃ (i : Nat) (A : Nat → Prop) (x : Nat → List UInt8), iv = .int .i64 i ∧ i ≤ ts.length ∧ WAt w.heap.size A se w wr w.heap.size (w.heap.size + 1) a3 sb qb x ∧ ∀ k, (x k).length ≤ bulks.weight (ts.take i)) (fun iv _ => ts.length - (intOf iv).toNat)
  case atStart => exact ⟨0, A0, fun _ => [], rfl, Nat.zero_le _, HST.out, fun k => Nat.zero_le _⟩
  case round =>
    obtain ⟨i, A, x, rfl, hi, W, hlen⟩ := hrel
    have HW := Lib.hid W
    have HLEN := Lib.hid hlen
    clear W HST hlen
    by_cases hlt : i < ts.length
    · obtain ⟨t, tb, tq, ht, hok, rfl, hc⟩ := thing_of_row (HXS.out.later HW.out.four.e) hlt
      have hmem : t ∈ ts := List.mem_of_getElem? ht
      have HTL := Lib.hid (show t.t.size ≤ 1048576 by have := weight_mem ts t hmem; have := HB.out; omega)
      have HSN := Lib.hid (show ts.take (i + 1) = ts.take i ++ [t] by rw [List.take_add_one, ht]; rfl)
      have HOK := Lib.hid hok
      have hkk : ∃ k : Nat, t.who % 4 = k ∧ k < 4 := ⟨(t.who % 4).toNat, by omega, by omega⟩
      obtain ⟨k, hk, hk4⟩ := hkk
      have hk4i : (k : Int) < 4 := by omega
      have hb := blk_alloc wr (.cells (thingCells t).toArray 36)
      have X := (Upd.refl none' wr).alloc (.cells (thingCells t).toArray 36)
      have c0 := (thing_cells hb).1
      have R := round_any t.who (wr.alloc (.cells (thingCells t).toArray 36)) hok.who1 hok.who2
      rw [hk] at R
      have HR := Lib.hid R
      have CF := form_any t hok HTL.out (wr.alloc (.cells (thingCells t).toArray 36))
      have HCF := Lib.hid CF
      have HSZ := Lib.hid (thing_size' t hok.h)
      have HCS := Lib.hid hc
      have HL := Lib.hid (fun (j : Nat) (v : Value) (hv : (thingCells t)[j]? = some v) => show World.cell? _ ⟨wr.heap.size, 0 + j, none⟩ = some v from by rw [cell_of_blk hb]; simpa using hv)
      have H1 := Lib.hid (one_cells t)
      have HZ := Lib.hid (show zero37.size = (thingCells t).length by rw [thingCells_len _ hok.h]; rfl)
      have HHB := Lib.hid hb
      have HX := Lib.hid X
      clear hc ht hmem hok hb X R CF hk
      go_wp2_with (first
        | (refine wpList_storeNew rfl 36 _ _ rfl _ _ rfl (thingCells t) rfl HSZ.out HZ.out H1.out ?_)
        | (refine wpList_loadAgg rfl 36 _ rfl tb (tq + i * 37) rfl (thingCells t) Tryd.underlying36 rfl HSZ.out HCS.out ?_)
        | (refine wpList_loadAgg rfl 36 _ rfl wr.heap.size 0 rfl (thingCells t) Tryd.underlying36 rfl HSZ.out HL.out ?_))
      refine HR.out.mono ?_
      rintro e w2 ⟨rfl, rfl⟩
      go_wp2_with (first
        | (refine wpList_loadAgg rfl 36 _ rfl wr.heap.size 0 rfl (thingCells t) Tryd.underlying36 rfl HSZ.out HL.out ?_))
      refine HCF.out.mono ?_
      rintro e w3 ⟨rfl, u3⟩
      have hb4 := blk_alloc w3 (.cells (fcells (formE t)).toArray 39)
      have X4 := (Upd.refl none' w3).alloc (.cells (fcells (formE t)).toArray 39)
      have XX := (HX.out.thenExt u3).thenExt X4
      have M0 : WMid w.heap.size A se w (w3.alloc (.cells (fcells (formE t)).toArray 39)) w.heap.size (w.heap.size + 1) a3 sb qb wr.heap.size w3.heap.size x t (formE t) :=
        ⟨HW.out.ext XX, Ext.blk X4 (Ext.blk u3 HHB.out), hb4, fun hA => by have := HW.out.four.hA _ hA; omega, fun hA => by have := HW.out.four.hA _ hA; have := u3.size; simp at this; omega⟩
      have HM := Lib.hid M0
      have hsz3 : wr.heap.size + 1 ≤ w3.heap.size := by have := u3.size; simpa using this
      have d1 := (thing_cells M0.tk).2.1
      have HZ3 := Lib.hid (rfl : (#[.int .i64 0, .int .i64 0] : Array Value).size = (fcells (formE t)).length)
      have RK := round_any t.kind (w3.alloc (.cells (fcells (formE t)).toArray 39)) HOK.out.kind1 HOK.out.kind2
      have HRK := Lib.hid RK
      have HPG := Lib.hid (show w.heap.size ≤ w3.heap.size ∧ (w3.heap.size ≠ a3 ∧ w3.heap.size ≠ sb ∧ w3.heap.size ≠ qb ∧ w3.heap.size ≠ wr.heap.size) by
        have h1 := lt_of_blk HW.out.four.un
        have h2 := lt_of_blk HW.out.sbk
        have h3 := lt_of_blk HW.out.qbk
        have h4 := HW.out.four.e.size
        omega)
      clear hb4 X4 XX M0 u3 RK HR HCF HHB HX HCS HZ
      go_upto_if 47 with (refine wpList_storeNew rfl 39 _ _ rfl _ _ rfl (fcells (formE t)) rfl fault_size HZ3.out (one_fault _) ?_)
      go_cut [9] from 28 to 91 (fun lv wx => lv = .string (str (wB k t)) ∧ WMid w.heap.size A se w wx w.heap.size (w.heap.size + 1) a3 sb qb wr.heap.size w3.heap.size x t (wE k t))
      case first =>
        by_cases hk2 : k < 2
        · have e1 : wE k t = formE t := if_pos hk2
          have e2 : wB k t = formB t := if_pos hk2
          have t0 : decide ((2 : Int) ≤ (k : Int)) = false := by simp; omega
          go_wp2_with fail
          go_meet
          case rel => exact ⟨by rw [e2], by rw [e1]; exact HM.out⟩
        · have e1 : wE k t = idleE t := if_neg hk2
          have e2 : wB k t = [] := if_neg hk2
          have t0 : decide ((2 : Int) ≤ (k : Int)) = true := by simp; omega
          by_cases hkd : t.kind % 4 = 0
          · have e3 : idleE t = some (1, none) := if_pos hkd
            rw [hkd] at HRK
            clear hkd
            go_wp2_with fail
            refine HRK.out.mono ?_
            rintro e w5 ⟨rfl, rfl⟩
            go_wp2_with fail
            refine (plain_any 1 _).mono ?_
            rintro e w5 ⟨rfl, u5⟩
            have HM5 := Lib.hid (HM.out.ext u5)
            clear u5
            go_wp2_with (refine wpList_storeAgg rfl 39 _ _ rfl w3.heap.size 0 rfl (fcells (some (1, none))) rfl fault_size (fcells (formE t)) 39 HM5.out.fk (Nat.le_refl 2) (one_fault _) ?_)
            go_meet
            case rel => exact ⟨by rw [e2], by rw [e1, e3]; exact HM5.out.fault _ HPG.out.1 HPG.out.2⟩
          · have e3 : formE t = none := by unfold formE; rw [if_neg (fun h => hkd h.1)]
            have e4 : idleE t = none := if_neg hkd
            have t1 : (t.kind % 4 == 0) = false := by simpa using hkd
            have E3 := Lib.hid e3
            have E4 := Lib.hid e4
            clear e3 e4
            go_wp2_with fail
            refine HRK.out.mono ?_
            rintro e w5 ⟨rfl, rfl⟩
            go_wp2_with fail
            go_meet
            case rel => exact ⟨by rw [e2], by rw [e1, E4.out, ← E3.out]; exact HM.out⟩
      case rest =>
        obtain ⟨rfl, M⟩ := hcut
        have HM2 := Lib.hid M
        have HMD := Lib.hid (M.ext (ext_drew wc))
        have c54 : wc.drew.cell? ⟨sb, k, none⟩ = some (ptrs w.heap.size (w.heap.size + 1) a3 k) := by rw [cell_of_blk HMD.out.wat.sbk]; exact ptrRow_at _ _ _ k hk4
        have HL2 := Lib.hid (fun (j : Nat) (v : Value) (hv : (thingCells t)[j]? = some v) => show World.cell? _ ⟨wr.heap.size, 0 + j, none⟩ = some v from by rw [cell_of_blk HMD.out.tk]; simpa using hv)
        have C := HMD.out.wat.four.put k hk4 t HOK.out HTL.out (by have := HLEN.out k; have := weight_take ts i; have := HB.out; omega)
        have HC := Lib.hid C
        clear M C HM HRK d1 HL c0
        go_wp2_with fail
        refine wp_region_still_tail 5 (by kernel_rfl) (by kernel_rfl) ?_
        simp only [List.take_succ_cons, List.take_zero, List.drop_succ_cons, List.drop_zero]
        change wpStill _ _ wc.drew _ _ _
        still_step
        still_step
        still_step
        still_step
        refine st_loadAgg rfl 36 _ rfl wr.heap.size 0 rfl (thingCells t) Tryd.underlying36 rfl HSZ.out HL2.out ?_
        refine wpStill_nil ?_
        go_wp2_with fail
        refine HC.out.mono ?_
        rintro e w5 ⟨v, rfl, hv, F5, u5⟩
        have hs5 := u5.size
        have hdz : wc.drew.heap.size = wc.heap.size := rfl
        have hsb5 := u5.blk HMD.out.wat.sbk HMD.out.wat.nsb
        have hqb5 := u5.blk HMD.out.wat.qbk HMD.out.wat.nqb
        have hfk5 := u5.blk HMD.out.fk HMD.out.n10
        have c62 : w5.cell? ⟨qb, k, none⟩ = some (.string (str (x k))) := by rw [cell_of_blk hqb5]; exact wantRow_at x k hk4
        have f62 : w5.frozen? ⟨qb, k, none⟩ = false := free_of_blk hqb5 k
        have U6 := (Upd.refl (one qb) w5).setCell (p := ⟨qb, k, none⟩) (.inr (show one _ _ from rfl)) (.string (str (x k) ++ str (wB k t)))
        have hqb6 := blk_set hqb5 k (.string (str (x k) ++ str (wB k t)))
        rw [str_add, wantRow_set x k _ hk4] at hqb6
        have hv6 := hv.upd U6 (hv.away hqb5 (by decide))
        have q1 := lt_of_blk HMD.out.wat.qbk
        have q2 := lt_of_blk HMD.out.wat.sbk
        have HA5 : ∀ b, b < wc.heap.size → ¬ A b → ¬ plus A wc.drew.heap.size w5.heap.size b := fun b hb hn hk => hk.elim hn (fun hk => by rw [hdz] at hk; omega)
        have W6 : WAt w.heap.size (plus A wc.drew.heap.size w5.heap.size) se w (w5.setCell ⟨qb, k, none⟩ (.string (str (x k) ++ str (wB k t)))) w.heap.size (w.heap.size + 1) a3 sb qb (addTo x k (wB k t)) :=
          ⟨F5.upd U6 (fun b hb => by have e : b = qb := hb; subst e; exact ⟨HPL.out.q, HA5 _ q1 HMD.out.wat.nqb, HPL.out.q3⟩), U6.blk hsb5 (fun hb => HPL.out.qs (Eq.symm hb)), hqb6, HA5 _ q2 HMD.out.wat.nsb, HA5 _ q1 HMD.out.wat.nqb⟩
        have hfk6 := U6.blk hfk5 (fun hb => HPG.out.2.2.2.1 hb)
        have hwb : (wB k t).length ≤ 39 + t.t.size := by
          have := formB_len t HOK.out
          unfold wB
          split
          · omega
          · simp
        have hsum : ¬ 9223372036854775807 < (x k).length + (wB k t).length := by have := HLEN.out k; have := weight_take ts i; have := HB.out; have := HTL.out; omega
        have HL6 : Hid (∀ j, (addTo x k (wB k t) j).length ≤ bulks.weight (ts.take (i + 1))) := by
          show ∀ j, (addTo x k (wB k t) j).length ≤ bulks.weight (ts.take (i + 1))
          intro j
          rw [HSN.out, weight_snoc]
          have h1 := HLEN.out j
          unfold addTo
          split
          · rw [List.length_append]; omega
          · omega
        have HW6 := Lib.hid W6
        have HV6 := Lib.hid hv6
        have HFK6 := Lib.hid hfk6
        clear hs5 hdz hsb5 hqb5 hfk5 U6 hqb6 hv hv6 F5 u5 W6 hfk6 q1 q2 HA5 c54
        go_wp2_with fail
        have hk64 : (k : Int) < 4 := hk4i
        have HLP := Lib.hid (fun (w7 : World) (h7 : Ext (w5.setCell ⟨qb, k, none⟩ (.string (str (x k) ++ str (wB k t)))) w7) => show w7.cell? ⟨sb, k, none⟩ = some (ptrs w.heap.size (w.heap.size + 1) a3 k) by rw [cell_of_blk (Ext.blk h7 HW6.out.sbk)]; exact ptrRow_at _ _ _ k hk4)
        have HLQ := Lib.hid (fun (w7 : World) (h7 : Ext (w5.setCell ⟨qb, k, none⟩ (.string (str (x k) ++ str (wB k t)))) w7) => show w7.cell? ⟨qb, k, none⟩ = some (.string (str (addTo x k (wB k t) k))) by rw [cell_of_blk (Ext.blk h7 HW6.out.qbk)]; exact wantRow_at _ k hk4)
        have HDN := Lib.hid (fun (w7 : World) (h7 : Ext (w5.setCell ⟨qb, k, none⟩ (.string (str (x k) ++ str (wB k t)))) w7) => (HW6.out.four.ext h7).done k hk4 |>.mono (R' := fun e w8 => e = .returned (.string (str (addTo x k (wB k t) k))) ∧ Ext (w5.setCell ⟨qb, k, none⟩ (.string (str (x k) ++ str (wB k t)))) w8) (by rintro e w8 ⟨rfl, rfl⟩; exact ⟨rfl, h7⟩))
        refine region_inv (Ext (w5.setCell ⟨qb, k, none⟩ (.string (str (x k) ++ str (wB k t))))) (by kernel_rfl) (by kernel_rfl) (ext_drew _) ?_
        refine inv_move rfl rfl v rfl ?_
        refine inv_norm (by go_simp; exact rfl) ?_
        refine inv_loadAgg rfl 39 _ rfl w3.heap.size 0 rfl (fcells (wE k t)) Tryd.underlying39 rfl fault_size (fun w7 h7 j u hu => by rw [cell_of_blk (Ext.blk h7 HFK6.out)]; simpa using hu) ?_
        refine inv_norm (by go_simp; exact rfl) ?_
        refine inv_call (v := .bool true) rfl 18 [.tmp 66, .tmp 67] _ rfl body_same [v, .agg (fcells (wE k t)).toArray] rfl (fun w7 h7 => (same_any (HW6.out.four.g.ext h7) (HV6.out.ext h7) (faultC (wE k t)) (faultA (wE k t))).mono (by rintro e w8 ⟨rfl, u⟩; exact ⟨by rw [sameB_self _ (wE_ok k t)], h7.thenExt u⟩)) ?_
        refine inv_norm (by go_simp; exact rfl) ?_
        refine inv_not rfl rfl true rfl ?_
        refine inv_norm (by go_simp; exact rfl) ?_
        refine inv_move rfl rfl (.bool false) rfl ?_
        refine inv_norm (by go_simp; exact rfl) ?_
        refine inv_move rfl rfl (.slice (some ⟨sb, 0, none⟩) 4 4) rfl ?_
        refine inv_norm (by go_simp; exact rfl) ?_
        refine inv_move rfl rfl (.int .i64 k) rfl ?_
        refine inv_norm (by go_simp; exact rfl) ?_
        refine inv_indexSlice rfl rfl sb 0 4 4 k 1 26 rfl rfl hk4 Tryd.underlying31 ptr_size ?_
        refine inv_norm (by go_simp; exact rfl) ?_
        refine inv_load1 rfl rfl ⟨sb, k, none⟩ (ptrs w.heap.size (w.heap.size + 1) a3 k) rfl Tryd.underlying26 rfl HLP.out ?_
        refine inv_norm (by go_simp; exact rfl) ?_
        refine inv_call (v := .string (str (addTo x k (wB k t) k))) rfl 19 [.tmp 74] _ rfl body_done [ptrs w.heap.size (w.heap.size + 1) a3 k] rfl HDN.out ?_
        refine inv_norm (by go_simp; exact rfl) ?_
        refine inv_move rfl rfl (.int .i64 k) rfl ?_
        refine inv_norm (by go_simp; exact rfl) ?_
        refine inv_indexArr rfl rfl qb 0 4 k 1 9 rfl rfl hk4 Tryd.underlying32 str_size1 ?_
        refine inv_norm (by go_simp; exact rfl) ?_
        refine inv_load1 rfl rfl ⟨qb, k, none⟩ (.string (str (addTo x k (wB k t) k))) rfl Tryd.underlying9 rfl HLQ.out ?_
        refine inv_norm (by go_simp; exact rfl) ?_
        refine inv_neqStr rfl rfl (str (addTo x k (wB k t) k)) rfl rfl ?_
        refine inv_norm (by go_simp; exact rfl) ?_
        refine inv_pick rfl rfl false (.bool false) rfl rfl ?_
        refine inv_norm (by go_simp; exact rfl) ?_
        refine inv_move rfl rfl (.bool false) rfl ?_
        refine inv_norm (by go_simp; exact rfl) ?_
        refine inv_move rfl rfl (.slice (some ⟨sb, 0, none⟩) 4 4) rfl ?_
        refine inv_norm (by go_simp; exact rfl) ?_
        refine inv_move rfl rfl (.int .i64 k) rfl ?_
        refine inv_norm (by go_simp; exact rfl) ?_
        refine inv_indexSlice rfl rfl sb 0 4 4 k 1 26 rfl rfl hk4 Tryd.underlying31 ptr_size ?_
        refine inv_norm (by go_simp; exact rfl) ?_
        refine inv_load1 rfl rfl ⟨sb, k, none⟩ (ptrs w.heap.size (w.heap.size + 1) a3 k) rfl Tryd.underlying26 rfl HLP.out ?_
        refine inv_norm (by go_simp; exact rfl) ?_
        refine inv_call (v := .string (str (addTo x k (wB k t) k))) rfl 19 [.tmp 85] _ rfl body_done [ptrs w.heap.size (w.heap.size + 1) a3 k] rfl HDN.out ?_
        refine inv_norm (by go_simp; exact rfl) ?_
        refine inv_move rfl rfl (.int .i64 k) rfl ?_
        refine inv_norm (by go_simp; exact rfl) ?_
        refine inv_indexArr rfl rfl qb 0 4 k 1 9 rfl rfl hk4 Tryd.underlying32 str_size1 ?_
        refine inv_norm (by go_simp; exact rfl) ?_
        refine inv_load1 rfl rfl ⟨qb, k, none⟩ (.string (str (addTo x k (wB k t) k))) rfl Tryd.underlying9 rfl HLQ.out ?_
        refine inv_norm (by go_simp; exact rfl) ?_
        refine inv_neqStr rfl rfl (str (addTo x k (wB k t) k)) rfl rfl ?_
        refine inv_norm (by go_simp; exact rfl) ?_
        refine inv_pick rfl rfl false (.bool false) rfl rfl ?_
        refine inv_norm (by go_simp; exact rfl) ?_
        intro w7 h7
        have HW7 := Lib.hid (HW6.out.ext h7)
        clear HW6 HV6 HFK6 h7 HLP HLQ HDN
        go_wp2_with fail
        exact ⟨⟨i + 1, _, _, by simp, hlt, HW7.out, HL6.out⟩, by simp [intOf]; omega⟩
    · go_wp2_with fail
      go_loopw [12] (fun jv w2 => ∃ j : Nat, jv = .int .i64 j ∧ j ≤ 4 ∧ WAt w.heap.size A se w w2 w.heap.size (w.heap.size + 1) a3 sb qb x) (fun jv _ => 4 - (intOf jv).toNat)
      case atStart => exact ⟨0, rfl, Nat.zero_le _, HW.out⟩
      case round =>
        clear HW HLEN
        obtain ⟨j, rfl, hj, W2⟩ := hrel
        have HW := Lib.hid W2
        clear W2
        by_cases hj4 : j < 4
        · have hj4i : (j : Int) < 4 := by omega
          have HLP := Lib.hid (fun (w7 : World) (h7 : Ext wr w7) => show w7.cell? ⟨sb, j, none⟩ = some (ptrs w.heap.size (w.heap.size + 1) a3 j) by rw [cell_of_blk (Ext.blk h7 HW.out.sbk)]; exact ptrRow_at _ _ _ j hj4)
          have HLQ := Lib.hid (fun (w7 : World) (h7 : Ext wr w7) => show w7.cell? ⟨qb, j, none⟩ = some (.string (str (x j))) by rw [cell_of_blk (Ext.blk h7 HW.out.qbk)]; exact wantRow_at _ j hj4)
          have HDN := Lib.hid (fun (w7 : World) (h7 : Ext wr w7) => (HW.out.four.ext h7).done j hj4 |>.mono (R' := fun e w8 => e = .returned (.string (str (x j))) ∧ Ext wr w8) (by rintro e w8 ⟨rfl, rfl⟩; exact ⟨rfl, h7⟩))
          go_wp2_with fail
          refine region_inv (Ext wr) (by kernel_rfl) (by kernel_rfl) (ext_drew _) ?_
          refine inv_move rfl rfl (.slice (some ⟨sb, 0, none⟩) 4 4) rfl ?_
          refine inv_norm (by go_simp; exact rfl) ?_
          refine inv_move rfl rfl (.int .i64 j) rfl ?_
          refine inv_norm (by go_simp; exact rfl) ?_
          refine inv_indexSlice rfl rfl sb 0 4 4 j 1 26 rfl rfl hj4 Tryd.underlying31 ptr_size ?_
          refine inv_norm (by go_simp; exact rfl) ?_
          refine inv_load1 rfl rfl ⟨sb, j, none⟩ (ptrs w.heap.size (w.heap.size + 1) a3 j) rfl Tryd.underlying26 rfl HLP.out ?_
          refine inv_norm (by go_simp; exact rfl) ?_
          refine inv_call (v := .string (str (x j))) rfl 19 [.tmp 99] _ rfl body_done [ptrs w.heap.size (w.heap.size + 1) a3 j] rfl HDN.out ?_
          refine inv_norm (by go_simp; exact rfl) ?_
          refine inv_move rfl rfl (.int .i64 j) rfl ?_
          refine inv_norm (by go_simp; exact rfl) ?_
          refine inv_indexArr rfl rfl qb 0 4 j 1 9 rfl rfl hj4 Tryd.underlying32 str_size1 ?_
          refine inv_norm (by go_simp; exact rfl) ?_
          refine inv_load1 rfl rfl ⟨qb, j, none⟩ (.string (str (x j))) rfl Tryd.underlying9 rfl HLQ.out ?_
          refine inv_norm (by go_simp; exact rfl) ?_
          refine inv_neqStr rfl rfl (str (x j)) rfl rfl ?_
          refine inv_norm (by go_simp; exact rfl) ?_
          intro w7 h7
          have HW7 := Lib.hid (HW.out.ext h7)
          clear HW h7 HLP HLQ HDN
          go_wp2_with fail
          exact ⟨⟨j + 1, by simp, hj4, HW7.out⟩, by simp [intOf]; omega⟩
        · have hj4i : ¬ (j : Int) < 4 := by omega
          go_wp2_with fail
          refine (lives_any HW.out.four.g).mono ?_
          rintro e w4 ⟨rfl, u⟩
          have A := HW.out.four.e.thenExt u
          clear u
          go_wp2_with fail
          go_ret
          exact ⟨rfl, A⟩
end Go.Proofs.YtkabomkikbdigaaDoor
