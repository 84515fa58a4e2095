/- wire.may by a contract. -/
import Derived.Test.YtljnhelnmnomoaaGreatDoorAsk
namespace Go.Proofs.YtljnhelnmnomoaaGreatDoor
open Go.RowKit Go.Lib

structure QryD where
  kind : Nat
  engine : Nat
  size : Nat
  index : Nat
  old : Nat
  bgn : Nat
  fin : Nat
  leaves : List ByteArray
structure QryD.Ok (q : QryD) : Prop where
  kind : q.kind < 256
  engine : q.engine < 256
  size : q.size < 18446744073709551616
  index : q.index < 18446744073709551616
  old : q.old < 18446744073709551616
  bgn : q.bgn < 18446744073709551616
  fin : q.fin < 18446744073709551616
  many : q.leaves.length ≤ 9223372036854775807
  leaf : ∀ s ∈ q.leaves, s.size ≤ 9223372036854775807
def qCells (q : QryD) (v : Value) : List Value := [.int .u8 q.kind, .int .u8 q.engine, .int .u64 q.size, .int .u64 q.index, .int .u64 q.old, .int .u64 q.bgn, .int .u64 q.fin, v]
def numQ (q : QryD) : Nat → Nat
  | 0 => q.size | 1 => q.index | 2 => q.old | 3 => q.bgn | _ => q.fin
theorem num_cell (q : QryD) (v : Value) (i : Nat) (h : i < 5) : (qCells q v)[i + 2]? = some (.int .u64 (numQ q i)) := by
  rcases (show i = 0 ∨ i = 1 ∨ i = 2 ∨ i = 3 ∨ i = 4 by omega) with rfl | rfl | rfl | rfl | rfl <;> rfl
theorem num_lt (q : QryD) (h : q.Ok) (i : Nat) : numQ q i < 18446744073709551616 := by
  unfold numQ
  split
  · exact h.size
  · exact h.index
  · exact h.old
  · exact h.bgn
  · exact h.fin
def mayNum (q : QryD) (i : Nat) : Bool := numQ q i == 0 || decide (i ∈ askN q.kind)
def mayB (q : QryD) : Bool := okQ q.kind && (goesB q.kind q.engine && ((askL q.kind || q.leaves.length == 0) && (List.range 5).all (mayNum q)))
theorem askN_len (k : Nat) : (askN k).length ≤ 1000 := by unfold askN; split <;> simp
theorem qry_size : (Tryz.prog.info? 27).map (·.size) = some 8 := by kernel_rfl

set_option maxRecDepth 8000 in
set_option maxHeartbeats 4000000 in
theorem may_any {B : Nat} {w : World} (A : Asks B w) (q : QryD) (hq : q.Ok) (ad : Option Addr) (ca : Nat) : Calls Tryz.prog 24 #[.agg (qCells q (.slice ad q.leaves.length ca)).toArray] w fun e w' => e = .returned (.bool (mayB q)) ∧ Ext w w' := by
  have X := (Upd.refl none' w).alloc (.cells (qCells q (.slice ad q.leaves.length ca)).toArray 27)
  have hb := blk_alloc w (.cells (qCells q (.slice ad q.leaves.length ca)).toArray 27)
  have C := of_any (A.ext X) q.kind hq.kind
  have c0 := cell_of_blk hb 0
  simp only [qCells] at X hb C c0 ⊢
  simp only [List.size_toArray, List.getElem?_toArray, List.getElem?_cons_zero, List.getElem?_cons_succ] at c0
  have HX := Lib.hid X
  have HB := Lib.hid hb
  have HQ := Lib.hid hq
  have HS := Lib.hid A.size
  clear X hb A hq
  go_enter Tryz.func24, Tryz.ntmps24
  go_wp2_with fail
  refine C.mono ?_
  rintro e w1 ⟨a, cap, rfl, hi, u⟩
  have HU := Lib.hid u
  have HSZ := Lib.hid ask_size
  have H1 := Lib.hid (ask_one q.kind a (askN q.kind).length cap)
  have hb1 := blk_alloc w1 (.cells #[.bool (askE q.kind), .slice a (askN q.kind).length cap, .bool (askL q.kind)] 83)
  have X1 := (Upd.refl none' w1).alloc (.cells #[.bool (askE q.kind), .slice a (askN q.kind).length cap, .bool (askL q.kind)] 83)
  have hbq := Ext.blk X1 (Ext.blk u HB.out)
  have HL := Lib.hid (fun (j : Nat) (u : Value) (hu : ([.bool (askE q.kind), .slice a (askN q.kind).length cap, .bool (askL q.kind)] : List Value)[j]? = some u) => show World.cell? _ ⟨w1.heap.size, 0 + j, none⟩ = some u from by rw [cell_of_blk hb1]; simpa using hu)
  have c1 := cell_of_blk hbq 1
  have c7 := cell_of_blk hbq 7
  have d0 := cell_of_blk hb1 0
  have d1 := cell_of_blk hb1 1
  have d2 := cell_of_blk hb1 2
  simp only [List.size_toArray, List.getElem?_toArray, List.getElem?_cons_zero, List.getElem?_cons_succ] at c1 c7 d0 d1 d2
  have HX1 := Lib.hid X1
  have hsz1 : B ≤ w1.heap.size := by have h1 := u.size; have h2 := HS.out; rw [World.size_alloc] at h1; omega
  have HB1 := Lib.hid hb1
  have HBQ := Lib.hid hbq
  have HI := Lib.hid (hi.extB hsz1 X1)
  clear u hb1 X1 hbq hi C
  have e0 : mayB q = (okQ q.kind && (goesB q.kind q.engine && ((askL q.kind || q.leaves.length == 0) && (List.range 5).all (mayNum q)))) := rfl
  cases hok : okQ q.kind with
  | false =>
    rw [hok, Bool.false_and] at e0
    have HE := Lib.hid e0
    clear e0 c1 c7 d0 d1 d2 hsz1 c0 HL hok
    go_wp2_with fail
    go_ret
    refine ⟨by rw [HE.out]; rfl, (HX.out.trans HU.out).trans HX1.out⟩
  | true =>
    rw [hok, Bool.true_and] at e0
    have HE := Lib.hid e0
    clear e0 hok
    have CG := goes_any q.kind q.engine HQ.out.engine a (askN q.kind).length cap (w1.alloc (.cells #[.bool (askE q.kind), .slice a (askN q.kind).length cap, .bool (askL q.kind)] 83))
    go_wp2_with fail
    refine CG.mono ?_
    rintro e w2 ⟨rfl, u2⟩
    have hb2 := Ext.blk u2 HB1.out
    have hq2 := Ext.blk u2 HBQ.out
    have c1 := cell_of_blk hq2 1
    have c7 := cell_of_blk hq2 7
    have d0 := cell_of_blk hb2 0
    have d1 := cell_of_blk hb2 1
    have d2 := cell_of_blk hb2 2
    simp only [List.size_toArray, List.getElem?_toArray, List.getElem?_cons_zero, List.getElem?_cons_succ] at c1 c7 d0 d1 d2
    have HE2 := Lib.hid ((HX.out.trans HU.out).trans (HX1.out.trans u2))
    have HI2 := Lib.hid (HI.out.extB (by have := HX1.out.size; omega) u2)
    have hsz2 : B ≤ w2.heap.size := by have h1 := HX1.out.size; have h2 := u2.size; omega
    have HS2 := Lib.hid hsz2
    have HB2 := Lib.hid hb2
    have HQ2 := Lib.hid hq2
    clear u2 hb2 hq2 CG hsz1 hsz2 c0 HL
    have e1 := HE.out
    cases hg : goesB q.kind q.engine with
    | false =>
      rw [hg, Bool.false_and] at e1
      have HE := Lib.hid e1
      clear e1 hg
      go_wp2_with fail
      go_ret
      exact ⟨by rw [HE.out]; rfl, HE2.out⟩
    | true =>
      rw [hg, Bool.true_and] at e1
      clear hg
      by_cases hlv : askL q.kind = false ∧ 0 < q.leaves.length
      · obtain ⟨hL, hn⟩ := hlv
        have hn0 : (q.leaves.length == 0) = false := beq_eq_false_iff_ne.2 (by omega)
        rw [hL, Bool.false_or, hn0, Bool.false_and] at e1
        have HE := Lib.hid e1
        have hni : (0 : Int) < q.leaves.length := by omega
        rw [hL] at d2
        clear e1 hn0 hL
        go_wp2_with fail
        go_ret
        exact ⟨by rw [HE.out]; rfl, HE2.out⟩
      · have hor : (askL q.kind || q.leaves.length == 0) = true := by
          cases hL : askL q.kind with
          | true => rfl
          | false => simp; exact Classical.byContradiction fun h => hlv ⟨hL, by
              cases hq : q.leaves with
              | nil => exact absurd hq h
              | cons x t => simp⟩
        rw [hor, Bool.true_and] at e1
        have HE := Lib.hid e1
        clear e1
        have hcell : Hid (∀ i, i < 5 → w2.cell? ⟨w.heap.size, i + 2, none⟩ = some (.int .u64 (numQ q i))) := Lib.hid (fun i hi => by
          rw [cell_of_blk HQ2.out]
          have := num_cell q (.slice ad q.leaves.length ca) i hi
          simpa [qCells] using this)
        have hdec : askL q.kind = true ∨ (askL q.kind = false ∧ q.leaves.length = 0) := by
          cases hL : askL q.kind with
          | true => exact .inl rfl
          | false => exact .inr ⟨rfl, Classical.byContradiction fun h => hlv ⟨hL, by omega⟩⟩
        clear hlv hor c1
        rcases hdec with hL | ⟨hL, hn⟩
        all_goals
          rw [hL] at d2
          try rw [hn] at c7
          try clear hn
          clear hL
          go_wp2_with fail
          go_loopw [32] (fun iv wr => ∃ j : Nat, iv = .int .i64 j ∧ j ≤ 5 ∧ wr = w2 ∧ ∀ i, i < j → mayNum q i = true) (fun iv _ => 5 - (RowKit.intOf iv).toNat)
          case atStart => exact ⟨0, rfl, by omega, rfl, fun i hi => by omega⟩
          case round =>
            obtain ⟨j, rfl, hj, rfl, hall⟩ := hrel
            have HALL := Lib.hid hall
            clear hall
            by_cases hlt : j < 5
            · have CN := number_any w.heap.size j hlt wr
              have hc := hcell.out j hlt
              have CC := contains_any HI2.out cap j (askN_len q.kind)
              generalize hm : numQ q j = m at *
              have HM := Lib.hid hm
              have hlti : (j : Int) < 5 := by omega
              clear hm
              by_cases hz : m = 0
              · have hz0 : ((m : Int) != 0) = false := by simp; omega
                have hok : mayNum q j = true := by unfold mayNum; rw [HM.out, hz]; rfl
                have HOK := Lib.hid hok
                clear hok hz
                go_wp2_with fail
                refine CN.mono ?_
                rintro e w3 ⟨rfl, rfl⟩
                go_wp2_with fail
                exact ⟨⟨j + 1, by simp, by omega, by first | rfl | trivial, fun i hi => (Nat.lt_succ_iff_lt_or_eq.1 hi).elim (HALL.out i) (fun e => by rw [e]; exact HOK.out)⟩, by simp [RowKit.intOf]; omega⟩
              · have hz0 : ((m : Int) != 0) = true := by simp; omega
                cases hd : decide (j ∈ askN q.kind) with
                | true =>
                  have hok : mayNum q j = true := by unfold mayNum; rw [hd, Bool.or_true]
                  rw [hd] at CC
                  have HOK := Lib.hid hok
                  clear hok hz hd
                  go_wp2_with fail
                  refine CN.mono ?_
                  rintro e w3 ⟨rfl, rfl⟩
                  go_wp2_with fail
                  refine CC.mono ?_
                  rintro e w3 ⟨rfl, rfl⟩
                  go_wp2_with fail
                  exact ⟨⟨j + 1, by simp, by omega, by first | rfl | trivial, fun i hi => (Nat.lt_succ_iff_lt_or_eq.1 hi).elim (HALL.out i) (fun e => by rw [e]; exact HOK.out)⟩, by simp [RowKit.intOf]; omega⟩
                | false =>
                  have hok : mayNum q j = false := by unfold mayNum; rw [hd, Bool.or_false, HM.out]; exact beq_eq_false_iff_ne.2 hz
                  have hres : mayB q = false := by
                    rw [HE.out]
                    rw [List.all_eq_false]
                    exact ⟨j, List.mem_range.2 hlt, by rw [hok]; simp⟩
                  have HRES := Lib.hid hres
                  rw [hd] at CC
                  clear hok hz hd hres
                  go_wp2_with fail
                  refine CN.mono ?_
                  rintro e w3 ⟨rfl, rfl⟩
                  go_wp2_with fail
                  refine CC.mono ?_
                  rintro e w3 ⟨rfl, rfl⟩
                  go_wp2_with fail
                  go_ret
                  exact ⟨by rw [HRES.out]; rfl, HE2.out⟩
            · obtain rfl : j = 5 := by omega
              have hres : mayB q = true := by
                rw [HE.out, List.all_eq_true]
                exact fun i hi => HALL.out i (List.mem_range.1 hi)
              have HRES := Lib.hid hres
              clear hres
              go_wp2_with fail
              go_ret
              exact ⟨by rw [HRES.out]; rfl, HE2.out⟩
end Go.Proofs.YtljnhelnmnomoaaGreatDoor
