/- wire.EncodeQuery: what it gives, plainly; the queries that are refused. -/
import Derived.Test.YtljnhelnmnomoaaGreatDoorMay
import Derived.Test.YtljnhelnmnomoaaGreatDoorWire
namespace Go.Proofs.YtljnhelnmnomoaaGreatDoor
open Go.RowKit Go.Lib

/-- Where texts lie. -/
def TextsAt (w : World) (a : Option Addr) (l : List ByteArray) : Prop := ∀ (i : Nat) (s : ByteArray), l[i]? = some s → s.size ≤ 9223372036854775807 ∧ ∃ b o, a = some ⟨b, o, none⟩ ∧ w.cell? ⟨b, o + i, none⟩ = some (.string s)
theorem TextsAt.later {w w' : World} {a : Option Addr} {l : List ByteArray} (h : TextsAt w a l) (u : Ext w w') : TextsAt w' a l := fun i s hs => by
  obtain ⟨h1, b, o, h2, h3⟩ := h i s hs
  exact ⟨h1, b, o, h2, Ext.cellv u h3⟩
def sizes (l : List ByteArray) : Nat := (l.map (·.size)).sum
theorem sizes_snoc (l : List ByteArray) (s : ByteArray) : sizes (l ++ [s]) = sizes l + s.size := by simp [sizes]
theorem sizes_take (l : List ByteArray) (i : Nat) : sizes (l.take i) ≤ sizes l := by
  unfold sizes
  induction l generalizing i with
  | nil => simp
  | cons a t ih => cases i with
    | zero => simp
    | succ i => simp only [List.take_succ_cons, List.map_cons, List.sum_cons]; have := ih i; omega
/-- Too much to write. -/
def bigQ (l : List ByteArray) : Prop := 4096 < l.length ∨ (∃ s ∈ l, 65536 < s.size) ∨ 1048576 < sizes l
def numsB (q : QryD) (l : List Nat) : List UInt8 := l.flatMap (fun i => varB (numQ q i))
def textsB (l : List ByteArray) : List UInt8 := l.flatMap (fun s => varB s.size ++ s.data.toList)
def headB (q : QryD) : List UInt8 := fixB 1 q.kind ++ fixB 1 q.engine
def QryD.body (q : QryD) : List UInt8 := headB q ++ numsB q (askN q.kind) ++ (if askL q.kind then varB q.leaves.length ++ textsB q.leaves else [])
open Classical in
noncomputable def qryE (q : QryD) : EV := if mayB q = false then some (2, none) else if bigQ q.leaves then some (4, none) else wholeE q.body
open Classical in
noncomputable def qryB (q : QryD) : List UInt8 := if mayB q = false then [] else if bigQ q.leaves then [] else wholeB q.body
theorem numsB_len (q : QryD) (l : List Nat) : (numsB q l).length ≤ 10 * l.length := by
  unfold numsB
  induction l with
  | nil => simp
  | cons a t ih => have := varB_len (numQ q a); simp only [List.flatMap_cons, List.length_append, List.length_cons]; omega
theorem textsB_len (l : List ByteArray) : (textsB l).length ≤ 10 * l.length + sizes l := by
  unfold textsB sizes
  induction l with
  | nil => simp
  | cons a t ih =>
    have := varB_len a.size
    have h2 : a.data.toList.length = a.size := by rw [Array.length_toList]; rfl
    simp only [List.flatMap_cons, List.length_append, List.length_cons, List.map_cons, List.sum_cons]; omega
theorem askN_small (k : Nat) : (askN k).length ≤ 3 := by unfold askN; split <;> simp
theorem askN_mem (k i : Nat) (h : i ∈ askN k) : i < 5 := by
  unfold askN at h
  split at h <;> simp at h <;> omega
theorem IntsAt.back {B : Nat} {w w' : World} {a : Option Addr} {l : List Nat} (h : IntsAt B w' a l) (hB : B ≤ w.heap.size) (k : Ext w w') : IntsAt B w a l := fun j i hj => by
  obtain ⟨b, o, h1, h2, h3⟩ := h j i hj
  exact ⟨b, o, h1, h2, by rw [← h3]; exact (Upd.cell k (p := ⟨b, o + j, none⟩) (by show b < _; omega) id).symm⟩
theorem sizes_take_succ (l : List ByteArray) (j : Nat) (s : ByteArray) (h : l[j]? = some s) : sizes (l.take (j + 1)) = sizes (l.take j) + s.size := by rw [List.take_add_one, h]; exact sizes_snoc _ _
theorem texts_take (l : List ByteArray) (j : Nat) (s : ByteArray) (h : l[j]? = some s) : textsB (l.take (j + 1)) = textsB (l.take j) ++ (varB s.size ++ s.data.toList) := by rw [List.take_add_one, h]; simp [textsB]
theorem nums_take (q : QryD) (l : List Nat) (j i : Nat) (h : l[j]? = some i) : numsB q (l.take (j + 1)) = numsB q (l.take j) ++ varB (numQ q i) := by rw [List.take_add_one, h]; simp [numsB]
/-- What EncodeQuery gives. -/
def EncQPost (se : Nat → Addr) (w : World) (rb : List UInt8) (re : EV) (e : Ending) (w' : World) : Prop := ∃ v, e = .returned (.tuple #[.string (str rb), v]) ∧ ErrIs se w' v re ∧ Ext w w'

set_option maxRecDepth 8000 in
set_option maxHeartbeats 4000000 in
theorem encQ_any {B : Nat} {se : Nat → Addr} {w : World} (G : Genv B se w) (A : Asks B w) (q : QryD) (hq : q.Ok) (ad : Option Addr) (ca : Nat) (hx : TextsAt w ad q.leaves)
    (rb : List UInt8) (re : EV) (hmay : Hid (mayB q = false → rb = [] ∧ re = some (2, none))) (hbig : Hid (mayB q = true → bigQ q.leaves → rb = [] ∧ re = some (4, none))) (hok : Hid (mayB q = true → ¬ bigQ q.leaves → rb = wholeB q.body ∧ re = wholeE q.body)) :
    Calls Tryz.prog 9 #[.agg (qCells q (.slice ad q.leaves.length ca)).toArray] w (EncQPost se w rb re) := by
  have X := (Upd.refl none' w).alloc (.cells (qCells q (.slice ad q.leaves.length ca)).toArray 27)
  have hb := blk_alloc w (.cells (qCells q (.slice ad q.leaves.length ca)).toArray 27)
  have C := may_any (A.ext X) q hq ad ca
  have AX := A.ext X
  have GX := G.ext X
  simp only [qCells] at X hb C AX GX ⊢
  have HX := Lib.hid X
  have HB := Lib.hid hb
  have HQ := Lib.hid hq
  have HXS := Lib.hid (hx.later X)
  have HA := Lib.hid AX
  have HG := Lib.hid GX
  have hmany := hq.many
  clear X hb A G hq hx AX GX
  go_enter Tryz.func9, Tryz.ntmps9
  go_wp2_with fail
  refine C.mono ?_
  rintro e w1 ⟨rfl, u⟩
  have hq1 := Ext.blk u HB.out
  have c7 := cell_of_blk hq1 7
  simp only [List.size_toArray, List.getElem?_toArray, List.getElem?_cons_zero, List.getElem?_cons_succ] at c7
  have G1 := HG.out.ext u
  have cg4 := G1.cell 4 (by omega) (by omega)
  have cg4' : w1.cell? ⟨1, 0, none⟩ = some (sv se 4) := cg4
  have cg2 := G1.cell 2 (by omega) (by omega)
  have cg2' : w1.cell? ⟨0, 0, none⟩ = some (sv se 2) := cg2
  have HE1 := Lib.hid ((HX.out.trans u))
  have HQ1 := Lib.hid hq1
  have HG1 := Lib.hid G1
  have HA1 := Lib.hid (HA.out.ext u)
  have HT1 := Lib.hid (HXS.out.later u)
  have fin4 : Hid (∀ (w' : World), Ext w1 w' → re = some (4, none) → rb = [] → EncQPost se w rb re (.returned (.tuple #[.string ⟨#[]⟩, sv se 4])) w') := Lib.hid (fun w' u he hr => by subst he; subst hr; exact ⟨sv se 4, rfl, ⟨by omega, by omega, rfl⟩, HE1.out.trans u⟩)
  clear u C hq1 G1 cg4 cg2 HXS HA
  cases hm : mayB q with
  | false =>
    obtain ⟨rfl, rfl⟩ := hmay.out hm
    clear hm
    go_wp2_with fail
    go_quiet (fail)
    go_wp2_with fail
    exact bodyPost_ret (v := .tuple #[.string ⟨#[]⟩, sv se 2]) (by simp [results, Tryz.results9, go_sem]) rfl ⟨sv se 2, rfl, ⟨by omega, by omega, rfl⟩, HE1.out.trans (by first | exact Upd.refl _ _ | exact ext_drewN _ _)⟩
  | true =>
    have HM := Lib.hid hm
    clear hm
    by_cases h4 : 4096 < q.leaves.length
    · have d4 : (4096 : Int) < q.leaves.length := by omega
      obtain ⟨e1, e2⟩ := hbig.out HM.out (.inl h4)
      have HR := Lib.hid (And.intro e1 e2)
      clear e1 e2 h4
      go_wp2_with fail
      go_quiet (fail)
      go_wp2_with fail
      exact bodyPost_ret (v := .tuple #[.string ⟨#[]⟩, sv se 4]) (by simp [results, Tryz.results9, go_sem]) rfl (fin4.out _ (by first | exact Upd.refl _ _ | exact ext_drewN _ _) HR.out.2 HR.out.1)
    · have d4 : ¬ (4096 : Int) < q.leaves.length := by omega
      go_wp2_with fail
      go_loopw [4, 26] (fun av iv wr => ∃ j : Nat, iv = .int .i64 j ∧ j ≤ q.leaves.length ∧ av = .int .i64 (sizes (q.leaves.take j)) ∧ wr = w1 ∧ sizes (q.leaves.take j) ≤ 1048576 ∧ ∀ s ∈ q.leaves.take j, s.size ≤ 65536) (fun _ iv _ => q.leaves.length - (RowKit.intOf iv).toNat)
      case atStart => exact ⟨0, rfl, Nat.zero_le _, by simp [sizes], rfl, by simp [sizes], fun s hs => by simp at hs⟩
      case round =>
        obtain ⟨j, rfl, hj, rfl, rfl, hsum, hall⟩ := hrel
        have HALL := Lib.hid hall
        clear hall
        by_cases hlt : j < q.leaves.length
        · have hg := List.getElem?_eq_getElem hlt
          obtain ⟨hs9, b, o, rfl, hc⟩ := HT1.out j _ hg
          have hmem : q.leaves[j] ∈ q.leaves := List.getElem_mem hlt
          have HST := Lib.hid (sizes_take_succ q.leaves j _ hg)
          have HSL := Lib.hid (sizes_take q.leaves (j + 1))
          have HG0 := Lib.hid hg
          have HMEM := Lib.hid hmem
          have hlti : (j : Int) < q.leaves.length := by omega
          generalize hs : q.leaves[j] = s at *
          clear hs hg hmem
          generalize hsm : sizes (q.leaves.take j) = tot at *
          clear hsm
          by_cases hs6 : 65536 < s.size
          · have d6 : (65536 : Int) < s.size := by omega
            have hR := hbig.out HM.out (.inr (.inl ⟨s, HMEM.out, hs6⟩))
            have HR := Lib.hid hR
            clear hR hs6
            go_wp2_with fail
            go_quiet (fail)
            go_wp2_with fail
            exact bodyPost_ret (v := .tuple #[.string ⟨#[]⟩, sv se 4]) (by simp [results, Tryz.results9, go_sem]) rfl (fin4.out _ (by first | exact Upd.refl _ _ | exact ext_drewN _ _) HR.out.2 HR.out.1)
          · have d6 : ¬ (65536 : Int) < s.size := by omega
            by_cases ht : 1048576 < tot + s.size
            · have dt : (1048576 : Int) < tot + s.size := by omega
              have hR := hbig.out HM.out (.inr (.inr (by have := HST.out; have := HSL.out; omega)))
              have HR := Lib.hid hR
              clear hR ht hs6
              go_wp2_with fail
              go_quiet (fail)
              go_wp2_with fail
              exact bodyPost_ret (v := .tuple #[.string ⟨#[]⟩, sv se 4]) (by simp [results, Tryz.results9, go_sem]) rfl (fin4.out _ (by first | exact Upd.refl _ _ | exact ext_drewN _ _) HR.out.2 HR.out.1)
            · have dt : ¬ (1048576 : Int) < tot + s.size := by omega
              have HH6 := Lib.hid hs6
              have HHT := Lib.hid ht
              clear ht hs6
              go_wp2_with fail
              refine ⟨⟨j + 1, by simp, by omega, by have := HST.out; congr 1; omega, by first | rfl | trivial, by have := HST.out; have := HHT.out; omega, fun x hx => ?_⟩, by simp [RowKit.intOf]; omega⟩
              rw [List.take_add_one, HG0.out] at hx
              rcases List.mem_append.1 hx with hx | hx
              · exact HALL.out x hx
              · have : x = s := by simpa using hx
                subst this
                have := HH6.out; omega
        · rename World => V1
          obtain rfl : j = q.leaves.length := by omega
          rw [List.take_length] at hsum
          have hnb : ¬ bigQ q.leaves := by
            intro hb
            rcases hb with hb | ⟨s, hs, hb⟩ | hb
            · omega
            · have := HALL.out s (by rw [List.take_length]; exact hs); omega
            · omega
          obtain ⟨e1, e2⟩ := hok.out HM.out hnb
          have HR := Lib.hid (And.intro e1 e2)
          have HSUM := Lib.hid hsum
          have HSZ1 := Lib.hid HG1.out.size
          have N := WrS.new (D := none') (HG1.out.up HG1.out.size (Nat.le_refl _)) (Upd.refl none' V1) (Nat.le_refl _) (fun k hk => hk.elim)
          clear e1 e2 hnb hsum
          go_wp2_with fail
          refine N.mono ?_
          rintro e w2 ⟨rfl, W, u⟩
          have HQ2 := Ext.blk u HQ1.out
          have c0 := cell_of_blk HQ2 0
          simp only [List.size_toArray, List.getElem?_toArray, List.getElem?_cons_zero, List.getElem?_cons_succ] at c0
          have hk := HQ.out.kind
          have hen := HQ.out.engine
          have C := W.fixed q.kind 1 (by omega) (by omega) (by omega) (fun _ => by omega) (by simp)
          have HW := Lib.hid W
          have HQH := Lib.hid HQ2
          clear W u N HQ2
          go_wp2_with fail
          refine C.mono ?_
          rintro e w3 ⟨rfl, W, u⟩
          have HQ3 := HW.out.keep u HQH.out (.inr (lt_of_blk HQ1.out))
          have c1 := cell_of_blk HQ3 1
          simp only [List.size_toArray, List.getElem?_toArray, List.getElem?_cons_zero, List.getElem?_cons_succ] at c1
          have C := W.fixed q.engine 1 (by omega) (by omega) (by omega) (fun _ => by omega) (by simp [fixB_len])
          rw [List.nil_append] at C
          have HW := Lib.hid W
          have HQH := Lib.hid HQ3
          clear W u HQ3 c0
          go_wp2_with fail
          refine C.mono ?_
          rintro e w4 ⟨rfl, W, u⟩
          have HQ4 := HW.out.keep u HQH.out (.inr (lt_of_blk HQ1.out))
          have c0 := cell_of_blk HQ4 0
          simp only [List.size_toArray, List.getElem?_toArray, List.getElem?_cons_zero, List.getElem?_cons_succ] at c0
          have eh : fixB 1 q.kind ++ fixB 1 q.engine = headB q := rfl
          rw [eh] at W
          have CO := of_any (HA1.out.ext W.e) q.kind hk
          have HW := Lib.hid W
          have HQH := Lib.hid HQ4
          clear W u C HQ4 c1 eh
          go_wp2_with fail
          refine CO.mono ?_
          rintro e w5 ⟨a, cap, rfl, hi, u⟩
          have X5 := (Upd.refl none' w5).alloc (.cells #[.bool (askE q.kind), .slice a (askN q.kind).length cap, .bool (askL q.kind)] 83)
          have W5 := (HW.out.ext u).grow (X5.ext _)
          rw [World.size_alloc] at W5
          have HB5 := blk_alloc w5 (.cells #[.bool (askE q.kind), .slice a (askN q.kind).length cap, .bool (askL q.kind)] 83)
          have HI := Lib.hid (hi.back HA1.out.size (HW.out.e.trans u))
          have HDA : Hid (plus none' w5.heap.size (w5.heap.size + 1) w5.heap.size) := Lib.hid (.inr ⟨Nat.le_refl _, Nat.lt_succ_self _⟩)
          have d1 := cell_of_blk HB5 1
          have d2 := cell_of_blk HB5 2
          simp only [List.size_toArray, List.getElem?_toArray, List.getElem?_cons_zero, List.getElem?_cons_succ] at d1 d2
          have HW5 := Lib.hid W5
          have HBA := Lib.hid HB5
          clear hi u X5 W5 HB5 CO c0
          generalize plus none' w5.heap.size (w5.heap.size + 1) = D at HW5 HDA
          go_wp2_with fail
          generalize hba : w5.heap.size = ba at HBA HDA ⊢
          generalize hwa : w5.alloc (.cells #[.bool (askE q.kind), .slice a (askN q.kind).length cap, .bool (askL q.kind)] 83) = wa at HW5 HBA ⊢
          clear d1 d2 hba hwa
          go_loopw [63] (fun iv wr => ∃ j : Nat, iv = .int .i64 j ∧ j ≤ (askN q.kind).length ∧ WrS V1.heap.size se V1 wr D V1.heap.size (headB q ++ numsB q ((askN q.kind).take j)) ∧ wr.heap[ba]? = some (.cells #[.bool (askE q.kind), .slice a (askN q.kind).length cap, .bool (askL q.kind)] 83 (0, 0))) (fun iv _ => (askN q.kind).length - (RowKit.intOf iv).toNat)
          case atStart => exact ⟨0, rfl, Nat.zero_le _, by simpa [numsB] using HW5.out, HBA.out⟩
          case round =>
            obtain ⟨j, rfl, hj, W, hba⟩ := hrel
            have HW := Lib.hid W
            have HBA2 := Lib.hid hba
            clear W hba HW5
            by_cases hlt : j < (askN q.kind).length
            · have hg := List.getElem?_eq_getElem hlt
              obtain ⟨b, o, rfl, hbB, hc⟩ := HI.out j _ hg
              have hc2 := Ext.cellv HW.out.e hc
              have HNT := Lib.hid (nums_take q (askN q.kind) j _ hg)
              have hi5 := askN_mem q.kind _ (List.getElem_mem hlt)
              have hlen3 := askN_small q.kind
              have hnl := numsB_len q ((askN q.kind).take j)
              rw [List.length_take] at hnl
              generalize (askN q.kind)[j] = i at *
              have hlti : (j : Int) < (askN q.kind).length := by omega
              have CN := number_any w.heap.size i hi5 wr
              have hq9 := Ext.blk HW.out.e HQ1.out
              have hcq : wr.cell? ⟨w.heap.size, i + 2, none⟩ = some (.int .u64 (numQ q i)) := by
                rw [cell_of_blk hq9]
                have := num_cell q (.slice ad q.leaves.length ca) i hi5
                simpa [qCells] using this
              have CV := HW.out.var (numQ q i) (num_lt q HQ.out i) (by rw [List.length_append]; unfold headB; rw [List.length_append, fixB_len, fixB_len]; omega)
              clear hg hc hq9 hbB hnl
              generalize numQ q i = m at *
              go_wp2_with fail
              refine CN.mono ?_
              rintro e w7 ⟨rfl, rfl⟩
              go_wp2_with fail
              refine CV.mono ?_
              rintro e w7 ⟨rfl, W, u⟩
              have hb7 := HW.out.keep u HBA2.out (.inl HDA.out)
              rw [List.append_assoc, ← HNT.out] at W
              have HW7 := Lib.hid W
              have HB7 := Lib.hid hb7
              clear W u hb7 CV CN
              go_wp2_with fail
              exact ⟨⟨j + 1, by simp, by omega, HW7.out, HB7.out⟩, by simp [RowKit.intOf]; omega⟩
            · obtain rfl : j = (askN q.kind).length := by omega
              have d2 := cell_of_blk HBA2.out 2
              simp only [List.size_toArray, List.getElem?_toArray, List.getElem?_cons_zero, List.getElem?_cons_succ] at d2
              have W0 := HW.out
              rw [List.take_length] at W0
              have HWO := Lib.hid W0
              have hnl := numsB_len q (askN q.kind)
              have hlen3 := askN_small q.kind
              have hhl : (headB q).length = 2 := by unfold headB; rw [List.length_append, fixB_len, fixB_len]
              clear W0
              cases hL : askL q.kind with
              | false =>
                have eb : q.body = headB q ++ numsB q (askN q.kind) := by unfold QryD.body; rw [hL]; simp
                have W := whole_any HWO.out.own (by rw [List.length_append]; omega)
                rw [← eb] at W
                rw [hL] at d2
                have O : True := trivial
                clear eb hL
                clear O
                go_wp2_with fail
                refine W.mono ?_
                rintro e w9 ⟨v, rfl, hv, u9⟩
                have HF := Lib.hid ((HE1.out.trans HWO.out.e).trans u9)
                clear u9 W
                go_wp2_with fail
                exact bodyPost_ret (v := .tuple #[.string (str (wholeB q.body)), v]) (by simp [results, Tryz.results9, go_sem]) rfl ⟨v, by rw [HR.out.1], by rw [HR.out.2]; exact hv, HF.out⟩
              | true =>
                have eb : q.body = headB q ++ numsB q (askN q.kind) ++ (varB q.leaves.length ++ textsB q.leaves) := by unfold QryD.body; rw [hL, if_pos rfl]
                rw [hL] at d2
                have HEB := Lib.hid eb
                have hq8 := Ext.blk HWO.out.e HQ1.out
                have c7 := cell_of_blk hq8 7
                simp only [List.size_toArray, List.getElem?_toArray, List.getElem?_cons_zero, List.getElem?_cons_succ] at c7
                have CV := HWO.out.var q.leaves.length (by omega) (by rw [List.length_append]; omega)
                have HNL := Lib.hid hnl
                clear eb hL hq8 hnl HW
                go_wp2_with fail
                refine CV.mono ?_
                rintro e w7 ⟨rfl, W, u⟩
                have hq8 := Ext.blk W.e HQ1.out
                have c7 := cell_of_blk hq8 7
                simp only [List.size_toArray, List.getElem?_toArray, List.getElem?_cons_zero, List.getElem?_cons_succ] at c7
                have HW7 := Lib.hid W
                clear W u hq8 CV d2
                go_wp2_with fail
                rename World => V2
                go_loopw [85] (fun iv wr => ∃ j : Nat, iv = .int .i64 j ∧ j ≤ q.leaves.length ∧ WrS V1.heap.size se V1 wr D V1.heap.size (headB q ++ numsB q (askN q.kind) ++ varB q.leaves.length ++ textsB (q.leaves.take j))) (fun iv _ => q.leaves.length - (RowKit.intOf iv).toNat)
                case atStart => exact ⟨0, rfl, Nat.zero_le _, by simpa [textsB] using HW7.out⟩
                case round =>
                  obtain ⟨j, rfl, hj, W⟩ := hrel
                  have HW8 := Lib.hid W
                  clear W HW7
                  have htl := textsB_len (q.leaves.take j)
                  have hst := sizes_take q.leaves j
                  rw [List.length_take] at htl
                  have hvl := varB_len q.leaves.length
                  by_cases hlt : j < q.leaves.length
                  · have hg := List.getElem?_eq_getElem hlt
                    obtain ⟨hs9, b, o, rfl, hc⟩ := HT1.out j _ hg
                    have hc2 := Ext.cellv HW8.out.e hc
                    have HTT := Lib.hid (texts_take q.leaves j _ hg)
                    have hs6 := HALL.out q.leaves[j] (by rw [List.take_length]; exact List.getElem_mem hlt)
                    have hlti : (j : Int) < q.leaves.length := by omega
                    generalize q.leaves[j] = s at *
                    have CT := HW8.out.text s (by have := HNL.out; have := HSUM.out; simp only [List.length_append]; omega)
                    clear hg hc htl hst hvl
                    go_wp2_with fail
                    refine CT.mono ?_
                    rintro e w9 ⟨rfl, W, u⟩
                    rw [List.append_assoc, ← HTT.out] at W
                    have HW9 := Lib.hid W
                    clear W u CT
                    go_wp2_with fail
                    exact ⟨⟨j + 1, by simp, by omega, HW9.out⟩, by simp [RowKit.intOf]; omega⟩
                  · obtain rfl : j = q.leaves.length := by omega
                    have W0 := HW8.out
                    rw [List.take_length] at W0
                    rw [List.take_length] at htl
                    have HWO := Lib.hid W0
                    have W := whole_any HWO.out.own (by have := HNL.out; have := HSUM.out; simp only [List.length_append]; omega)
                    rw [List.append_assoc, ← HEB.out] at W
                    have O : True := trivial
                    clear W0 htl hst hvl
                    clear O
                    go_wp2_with fail
                    refine W.mono ?_
                    rintro e w9 ⟨v, rfl, hv, u9⟩
                    have HF := Lib.hid ((HE1.out.trans HWO.out.e).trans u9)
                    clear u9 W
                    go_wp2_with fail
                    exact bodyPost_ret (v := .tuple #[.string (str (wholeB q.body)), v]) (by simp [results, Tryz.results9, go_sem]) rfl ⟨v, by rw [HR.out.1], by rw [HR.out.2]; exact hv, HF.out⟩
end Go.Proofs.YtljnhelnmnomoaaGreatDoor
