/- What wire's readers answer: the fault's number and place are in order; how many leaves and hashes. The walk of WireAsks. PRINTED by wip/tools/gen_asks.py. -/
import Derived.Test.YtljnhelnmnomoaaGreatDoorBackPlain
import Derived.Test.YtljnhelnmnomoaaGreatDoorRefOps
import Derived.Test.YtljnhelnmnomoaaGreatDoorBook
import Derived.Test.YtljnhelnmnomoaaGreatDoorRefS
import Derived.Test.YtljnhelnmnomoaaGreatDoorAlive
namespace Go.Proofs.YtljnhelnmnomoaaGreatDoor
open Go.RowKit Go.Lib


theorem sameB_self (x : EV) (h : ∀ k n, x = some (k, some n) → 1 ≤ k ∧ 0 ≤ n) : sameB x (faultC x) (faultA x) = true := by
  match x, h with
  | none, _ => rfl
  | some (k, none), _ => simp [sameB, faultC, faultA, codeOf, placed]
  | some (k, some n), h =>
    have h1 := h k n rfl
    show (if n = -1 then _ else isAtB (some (k, some n)) k n) = true
    rw [if_neg (by omega)]
    unfold isAtB
    rw [if_neg (by simp [codeOf]; omega)]
    simp [placed, placeOf]
/-- A fault's number and place are in order. -/
def FOk (e : EV) : Prop := ∀ k n, e = some (k, n) → 1 ≤ k ∧ ∀ p, n = some p → 0 ≤ p
theorem FOk.same {e : EV} (h : FOk e) : sameB e (faultC e) (faultA e) = true := sameB_self e (fun k n he => ⟨(h k _ he).1, (h k _ he).2 n rfl⟩)
theorem fok_arg : FOk (some (2, none)) := fun k n h => by cases h; exact ⟨by decide, fun p h => by cases h⟩
theorem fok_lim : FOk (some (4, none)) := fun k n h => by cases h; exact ⟨by decide, fun p h => by cases h⟩
theorem fok_nil : FOk (some (1, none)) := fun k n h => by cases h; exact ⟨by decide, fun p h => by cases h⟩
theorem fok_in (p : Nat) : FOk (some (3, some (p : Int))) := fun k n h => by cases h; exact ⟨by decide, fun q h => by cases h; omega⟩
theorem fok_fail {x : RdD} (h : FOk x.f) {e : EV} (he : FOk e) : FOk (x.fail e).f := by
  unfold RdD.fail
  split
  · exact he
  · exact h
theorem fok_take {x : RdD} (h : FOk x.f) (n p : Nat) : FOk (x.take n p).2.f := by
  unfold RdD.take
  split
  · exact h
  · exact fok_fail h (fok_in p)
theorem fok_var {x : RdD} (h : FOk x.f) : FOk x.var.2.f := by
  unfold RdD.var
  split
  · split
    · exact h
    · exact fok_in _
  · exact h
theorem fok_fixed {x : RdD} (h : FOk x.f) (k : Int) : FOk (x.fixed k).2.f := by
  unfold RdD.fixed
  split
  · exact fok_fail h fok_arg
  · split
    · exact h
    · exact fok_take h _ _
theorem fok_text {x : RdD} (h : FOk x.f) (m : Int) : FOk (x.text m).2.f := by
  unfold RdD.text
  split
  · exact fok_fail h fok_arg
  · split
    · exact h
    · split
      · exact fok_var h
      · split
        · exact fok_fail (fok_var h) fok_lim
        · exact fok_take (fok_var h) _ _
theorem fok_hash {x : RdD} (h : FOk x.f) : FOk x.hash.2.f := by
  unfold RdD.hash
  split
  · exact h
  · exact fok_take h _ _
theorem fok_fin {x : RdD} (h : FOk x.f) : FOk x.fin := by
  unfold RdD.fin
  split
  · exact fok_in _
  · exact h
theorem FOk.sameE {e : EV} (h : FOk e) : sameB e (efC e) (efA e) = true := by rw [efC_is, efA_is]; exact h.same
theorem fok_none : FOk none := fun k n h => by cases h
theorem fok_nums : ∀ (l : List Nat) (q : QryD) (x : RdD), FOk x.f → FOk (decNums l q x).2.f
  | [], _, _, h => h
  | i :: l, q, x, h => fok_nums l _ _ (fok_var h)
theorem fok_texts : ∀ (n : Nat) (x : RdD), FOk x.f → FOk (decTexts n x).2.f
  | 0, _, h => h
  | n + 1, x, h => fok_texts n _ (fok_text h _)
theorem fok_finQ (q : QryD) (x : RdD) (h : FOk x.f) : FOk (finQ q x).2 := by
  unfold finQ
  split
  · exact fok_none
  · exact fok_fin h
theorem fok_decQ (s : ByteArray) : FOk (decQ s).2 := by
  unfold decQ
  split
  · exact fok_lim
  · split
    · exact fok_in 0
    · split
      · exact fok_in 0
      · split
        · exact fok_in 1
        · split
          · exact fok_in 1
          · simp only
            split
            · split
              · exact fok_lim
              · exact fok_finQ _ _ (fok_texts _ _ (fok_var (fok_nums _ _ _ fok_none)))
            · exact fok_finQ _ _ (fok_nums _ _ _ fok_none)
theorem nums_leaves : ∀ (l : List Nat) (q : QryD) (x : RdD), (decNums l q x).1.leaves = q.leaves
  | [], _, _ => rfl
  | i :: l, q, x => (nums_leaves l _ _).trans (by unfold setQ; split <;> rfl)
theorem texts_many : ∀ (n : Nat) (x : RdD), (decTexts n x).1.length = n
  | 0, _ => rfl
  | n + 1, x => by show (decTexts n _).1.length + 1 = n + 1; rw [texts_many n]
theorem finQ_many (q : QryD) (x : RdD) (n : Nat) (h : q.leaves.length ≤ n) : (finQ q x).1.leaves.length ≤ n := by
  unfold finQ
  split
  · exact h
  · exact Nat.zero_le _
theorem decQ_many (s : ByteArray) : (decQ s).1.leaves.length ≤ 4096 := by
  unfold decQ
  split
  · exact Nat.zero_le _
  · split
    · exact Nat.zero_le _
    · split
      · exact Nat.zero_le _
      · split
        · exact Nat.zero_le _
        · split
          · exact Nat.zero_le _
          · simp only
            split
            · split
              · exact Nat.zero_le _
              · refine finQ_many _ _ _ ?_
                show (decTexts _ _).1.length ≤ 4096
                rw [texts_many]; omega
            · exact finQ_many _ _ _ (by rw [nums_leaves]; exact Nat.zero_le _)
theorem lit_q : decQ ⟨#[7, 0, 2, 2, 97, 98, 0]⟩ = (⟨7, 0, 0, 0, 0, 0, 0, [⟨#[97, 98]⟩, ⟨#[]⟩]⟩, none) := by rfl

theorem tab_lt {w : World} (T : Tab10 w) : 18 < w.heap.size := by
  have hg : Tryz.prog.globalNamed "internal/strconv.uint64pow10" = some 18 := by kernel_rfl
  unfold Tab10 Lib.TabIs World.var? at T
  simp only [hg, Option.bind_some] at T
  cases hb : w.heap[18]? with
  | none => simp [hb] at T
  | some o => exact lt_of_blk hb
theorem ext_then {w W W' : World} {S : Nat → Prop} (h : Ext w W) (u : Upd S W W') (hS : ∀ g, S g → w.heap.size ≤ g) : Ext w W' := h.then u (fun b hb hs => by have := hS b hs; omega)
theorem row_not_ty {W : World} {B b : Nat} {e t : TypeId} {size n : Nat} {v : Value} {xs : List Value} {cs : Array Value} {f : Nat × Nat} (h : W.ownsRow B e size v n xs) (hb : W.heap[b]? = some (.cells cs t f)) (he : e ≠ t) : v.ownBlock ≠ some b := fun hg => by
  obtain ⟨cl, h1⟩ := own_ty h hg
  rw [hb] at h1
  simp only [Option.some.injEq, Obj.cells.injEq] at h1
  exact he h1.2.1.symm
/-- A book that texts alone were told. -/
def bookC (N : Int) (tv : Value) : List Value := [.int .i64 N, .slice none 0 0, .slice none 0 0, tv, .slice none 0 0, .slice none 0 0, .slice none 0 0, .slice none 0 0, .slice none 0 0, .slice none 0 0, .slice none 0 0, .slice none 0 0, .slice none 0 0, .slice none 0 0, .slice none 0 0, .slice none 0 0, .slice none 0 0]
theorem bookC_nil (N : Int) (tv : Value) (c : Nat) (h1 : 1 ≤ c) (h2 : c ≤ 16) (h3 : c ≠ 3) : (bookC N tv).toArray[c]? = some (.slice none 0 0) := by
  rcases (show c = 1 ∨ c = 2 ∨ c = 4 ∨ c = 5 ∨ c = 6 ∨ c = 7 ∨ c = 8 ∨ c = 9 ∨ c = 10 ∨ c = 11 ∨ c = 12 ∨ c = 13 ∨ c = 14 ∨ c = 15 ∨ c = 16 by omega) with rfl | rfl | rfl | rfl | rfl | rfl | rfl | rfl | rfl | rfl | rfl | rfl | rfl | rfl | rfl <;> rfl
theorem texts_any {B b N : Nat} {W : World} {tv v : Value} {L : List HeldD} {C : Nat → List Value} {n : Nat} {xs : List Value} (hb : W.heap[b]? = some (.cells (bookC N tv).toArray 64 (0, 0)))
    (H : HoldT B W tv L C) (hv : W.ownsRow B 9 1 v n xs) (hsep : ∀ (i : Nat) h g, L[i]? = some h → v.ownBlock = some g → h.v.ownBlock ≠ some g) (hB : B ≤ W.heap.size) (hN : N ≤ 1000000) (hn : L.length ≤ 1000000) :
    Calls Tryz.prog 17 #[.pointer (some ⟨b, 0, none⟩), v] W fun e W' => e = .returned (.tuple #[]) ∧ ∃ tv', HoldT B W' tv' (L ++ [⟨v, .slice none 0 0, n, N + 1⟩]) (fun j => if j = L.length then xs else C j) ∧
      W'.heap[b]? = some (.cells (bookC ((N + 1 : Nat) : Int) tv').toArray 64 (0, 0)) ∧ Upd (fun g => g = b ∨ tv.ownBlock = some g) W W' := by
  have CK := keepT_any hb rfl rfl H hv hsep hB hN hn
  clear hb H hv hsep
  go_enter Tryz.func17, Tryz.ntmps17
  go_wp2_with fail
  refine CK.mono ?_
  rintro e w' ⟨rfl, h⟩
  have HH := Lib.hid h
  clear h CK
  go_wp2_with fail
  go_end0
  exact ⟨rfl, HH.out⟩

set_option maxRecDepth 8000 in
set_option maxHeartbeats 8000000 in
theorem asks_any {B : Nat} {se : Nat → Addr} {w : World} (G : Genv B se w) (A : Asks B w) (Tb : Tab10 w) (s : ByteArray) (hs : s.size ≤ 9223372036854775807) :
    Calls Tryz.prog 4 #[.string s] w fun e w' => e = .returned (.bool true) ∧ Ext w w' := by
  have C1 := refD_any s hs w
  obtain ⟨q, ee, hqe⟩ : ∃ q ee, decQ s = (q, ee) := ⟨_, _, rfl⟩
  have HFO := Lib.hid (show FOk ee by have := fok_decQ s; rwa [hqe] at this)
  have hmany : q.leaves.length ≤ 4096 := by have := decQ_many s; rwa [hqe] at this
  rw [hqe] at C1
  have HQE := Lib.hid hqe
  have HG := Lib.hid G
  have HA := Lib.hid A
  have HTB := Lib.hid Tb
  have HPL := Lib.hid (tab_lt Tb)
  have HS := Lib.hid hs
  clear G A Tb hqe hs
  go_enter Tryz.func4, Tryz.ntmps4
  go_wp2_with fail
  refine C1.mono ?_
  rintro e w1 ⟨a0, cap0, rfl, ht, u⟩
  simp only [qCells]
  have X := ((Upd.refl none' w1).alloc (.cells #[.int .u8 q.kind, .int .u8 q.engine, .int .u64 q.size, .int .u64 q.index, .int .u64 q.old, .int .u64 q.bgn, .int .u64 q.fin, .slice a0 q.leaves.length cap0] 27)).alloc (.cells #[.int .i64 (efC ee), .int .i64 (efA ee)] 36)
  have HB3 := Lib.hid (blk_alloc_lt (blk_alloc w1 (.cells #[.int .u8 q.kind, .int .u8 q.engine, .int .u64 q.size, .int .u64 q.index, .int .u64 q.old, .int .u64 q.bgn, .int .u64 q.fin, .slice a0 q.leaves.length cap0] 27)) (.cells #[.int .i64 (efC ee), .int .i64 (efA ee)] 36))
  have hb4 := blk_alloc (w1.alloc (.cells #[.int .u8 q.kind, .int .u8 q.engine, .int .u64 q.size, .int .u64 q.index, .int .u64 q.old, .int .u64 q.bgn, .int .u64 q.fin, .slice a0 q.leaves.length cap0] 27)) (.cells #[.int .i64 (efC ee), .int .i64 (efA ee)] 36)
  rw [World.size_alloc] at hb4
  have HB4 := Lib.hid hb4
  have HT0 := Lib.hid (ht.later X)
  have U := u.trans X
  have HU1 := Lib.hid U
  have C2 := decQ_own (HG.out.ext U) (HA.out.ext U) s HS.out
  rw [HQE.out] at C2
  clear X hb4 ht u U C1
  go_wp2_with fail
  refine C2.mono ?_
  rintro e w2 ⟨a1, cap1, v1, rfl, ht, hv, u, ho⟩
  simp only [qCells]
  have X := (Upd.refl none' w2).alloc (.cells #[.int .u8 q.kind, .int .u8 q.engine, .int .u64 q.size, .int .u64 q.index, .int .u64 q.old, .int .u64 q.bgn, .int .u64 q.fin, .slice a1 q.leaves.length cap1] 27)
  have U := HU1.out.trans (u.trans X)
  have HL1 := Lib.hid (fun g hg => show w.heap.size ≤ g ∧ g < w2.heap.size from ⟨Nat.le_trans HU1.out.size (ho.lt g hg).1, (ho.lt g hg).2⟩)
  have HO1 := Lib.hid (own_base (ownsRow_upd ho X (fun _ _ e => e)) HU1.out.size)
  have HB5 := Lib.hid (blk_alloc w2 (.cells #[.int .u8 q.kind, .int .u8 q.engine, .int .u64 q.size, .int .u64 q.index, .int .u64 q.old, .int .u64 q.bgn, .int .u64 q.fin, .slice a1 q.leaves.length cap1] 27))
  have HB3 := Lib.hid (Ext.blk (u.trans X) HB3.out)
  have HB4 := Lib.hid (Ext.blk (u.trans X) HB4.out)
  have HT0 := Lib.hid (HT0.out.later (u.trans X))
  have HT1 := Lib.hid (ht.later X)
  have HV1 := Lib.hid (hv.ext X)
  have HU2 := Lib.hid U
  have HSZ2 := Lib.hid X.size
  have C3 := decQ_own (HG.out.ext U) (HA.out.ext U) ⟨#[7, 0, 2, 2, 97, 98, 0]⟩ (by decide)
  rw [lit_q] at C3
  clear X ht hv u U ho C2
  go_wp2_with fail
  refine C3.mono ?_
  rintro e w3 ⟨a2, cap2, v2, rfl, ht, hv, u, ho⟩
  simp only [qCells, List.length_cons, List.length_nil, Nat.zero_add, Nat.reduceAdd] at ho ⊢
  have X := (Upd.refl none' w3).alloc (.cells #[.int .u8 7, .int .u8 0, .int .u64 0, .int .u64 0, .int .u64 0, .int .u64 0, .int .u64 0, .slice a2 2 cap2] 27)
  have U := HU2.out.trans (u.trans X)
  have HL2 := Lib.hid (fun g hg => show w2.heap.size ≤ g ∧ g < w3.heap.size from ⟨Nat.le_trans HSZ2.out (ho.lt g hg).1, (ho.lt g hg).2⟩)
  have HO2 := Lib.hid (own_base (ownsRow_upd ho X (fun _ _ e => e)) HU2.out.size)
  have HO1 := Lib.hid (ownsRow_upd HO1.out (u.trans X) (fun _ _ e => e))
  have HB7 := Lib.hid (blk_alloc w3 (.cells #[.int .u8 7, .int .u8 0, .int .u64 0, .int .u64 0, .int .u64 0, .int .u64 0, .int .u64 0, .slice a2 2 cap2] 27))
  have HB3 := Lib.hid (Ext.blk (u.trans X) HB3.out)
  have HB4 := Lib.hid (Ext.blk (u.trans X) HB4.out)
  have HB5 := Lib.hid (Ext.blk (u.trans X) HB5.out)
  have HT0 := Lib.hid (HT0.out.later (u.trans X))
  have HT1 := Lib.hid (HT1.out.later (u.trans X))
  have HV1 := Lib.hid (HV1.out.ext (u.trans X))
  have HU3 := Lib.hid U
  have HSZ3 := Lib.hid X.size
  have HS23 := Lib.hid (Nat.le_trans HSZ2.out u.size)
  have C4 := decQ_own (HG.out.ext U) (HA.out.ext U) s HS.out
  rw [HQE.out] at C4
  clear X ht hv u U ho C3
  go_wp2_with fail
  refine C4.mono ?_
  rintro e w4 ⟨a3, cap3, v3, rfl, ht, hv, u, ho⟩
  simp only [qCells]
  have X := (Upd.refl none' w4).alloc (.cells #[.int .u8 q.kind, .int .u8 q.engine, .int .u64 q.size, .int .u64 q.index, .int .u64 q.old, .int .u64 q.bgn, .int .u64 q.fin, .slice a3 q.leaves.length cap3] 27)
  have U := HU3.out.trans (u.trans X)
  have HL3 := Lib.hid (fun g hg => show w3.heap.size ≤ g ∧ g < w4.heap.size from ⟨Nat.le_trans HSZ3.out (ho.lt g hg).1, (ho.lt g hg).2⟩)
  have HO3 := Lib.hid (own_base (ownsRow_upd ho X (fun _ _ e => e)) HU3.out.size)
  have HO1 := Lib.hid (ownsRow_upd HO1.out (u.trans X) (fun _ _ e => e))
  have HO2 := Lib.hid (ownsRow_upd HO2.out (u.trans X) (fun _ _ e => e))
  have HB9 := Lib.hid (blk_alloc w4 (.cells #[.int .u8 q.kind, .int .u8 q.engine, .int .u64 q.size, .int .u64 q.index, .int .u64 q.old, .int .u64 q.bgn, .int .u64 q.fin, .slice a3 q.leaves.length cap3] 27))
  have HB3 := Lib.hid (Ext.blk (u.trans X) HB3.out)
  have hb4 := Ext.blk (u.trans X) HB4.out
  have HB5 := Lib.hid (Ext.blk (u.trans X) HB5.out)
  have HB7 := Lib.hid (Ext.blk (u.trans X) HB7.out)
  have HT0 := Lib.hid (HT0.out.later (u.trans X))
  have HT1 := Lib.hid (HT1.out.later (u.trans X))
  have HT3 := Lib.hid (ht.later X)
  have HV1 := Lib.hid (HV1.out.ext (u.trans X))
  have HV3 := Lib.hid (hv.ext X)
  have HU4 := Lib.hid U
  have HB4 := Lib.hid hb4
  have C5 := same_any (HG.out.ext U) HV1.out (efC ee) (efA ee)
  rw [HFO.out.sameE] at C5
  have f0 := cell_of_blk hb4 0
  have f1 := cell_of_blk hb4 1
  simp only [List.size_toArray, List.getElem?_toArray, List.getElem?_cons_zero, List.getElem?_cons_succ] at f0 f1
  clear X ht hv u U ho hb4 C4
  generalize hW5 : w4.alloc (.cells #[.int .u8 q.kind, .int .u8 q.engine, .int .u64 q.size, .int .u64 q.index, .int .u64 q.old, .int .u64 q.bgn, .int .u64 q.fin, .slice a3 q.leaves.length cap3] 27) = W5 at *
  generalize hS4 : w4.heap.size = z4 at *
  go_wp2_with fail
  refine C5.mono ?_
  rintro e w6 ⟨rfl, u⟩
  have U := HU4.out.trans u
  have hb4 := Ext.blk u HB4.out
  have HV3 := Lib.hid (HV3.out.ext u)
  have C6 := same_any (HG.out.ext U) HV3.out (efC ee) (efA ee)
  rw [HFO.out.sameE] at C6
  have f0 := cell_of_blk hb4 0
  have f1 := cell_of_blk hb4 1
  simp only [List.size_toArray, List.getElem?_toArray, List.getElem?_cons_zero, List.getElem?_cons_succ] at f0 f1
  have HU6 := Lib.hid u
  clear u U hb4 C5
  go_wp2_with fail
  refine C6.mono ?_
  rintro e w7 ⟨rfl, u⟩
  have U := HU6.out.trans u
  have hb3 := Ext.blk U HB3.out
  have hb5 := Ext.blk U HB5.out
  have C7 := sameQ_any q (by omega) (HT1.out.later U) (HT0.out.later U) cap1 cap0
  simp only [qCells] at C7
  have c0 := cell_of_blk hb3 0
  have c1 := cell_of_blk hb3 1
  have c2 := cell_of_blk hb3 2
  have c3 := cell_of_blk hb3 3
  have c4 := cell_of_blk hb3 4
  have c5 := cell_of_blk hb3 5
  have c6 := cell_of_blk hb3 6
  have c7 := cell_of_blk hb3 7
  simp only [List.size_toArray, List.getElem?_toArray, List.getElem?_cons_zero, List.getElem?_cons_succ] at c0 c1 c2 c3 c4 c5 c6 c7
  have d0 := cell_of_blk hb5 0
  have d1 := cell_of_blk hb5 1
  have d2 := cell_of_blk hb5 2
  have d3 := cell_of_blk hb5 3
  have d4 := cell_of_blk hb5 4
  have d5 := cell_of_blk hb5 5
  have d6 := cell_of_blk hb5 6
  have d7 := cell_of_blk hb5 7
  simp only [List.size_toArray, List.getElem?_toArray, List.getElem?_cons_zero, List.getElem?_cons_succ] at d0 d1 d2 d3 d4 d5 d6 d7
  have HU7 := Lib.hid U
  clear u U hb3 hb5 C6 f0 f1
  go_wp2_with fail
  refine C7.mono ?_
  rintro e w8 ⟨rfl, u⟩
  have U := HU7.out.trans u
  have hb3 := Ext.blk U HB3.out
  have hb9 := Ext.blk U HB9.out
  have C8 := sameQ_any q (by omega) (HT3.out.later U) (HT0.out.later U) cap3 cap0
  simp only [qCells] at C8
  clear c0 c1 c2 c3 c4 c5 c6 c7 d0 d1 d2 d3 d4 d5 d6 d7
  have c0 := cell_of_blk hb3 0
  have c1 := cell_of_blk hb3 1
  have c2 := cell_of_blk hb3 2
  have c3 := cell_of_blk hb3 3
  have c4 := cell_of_blk hb3 4
  have c5 := cell_of_blk hb3 5
  have c6 := cell_of_blk hb3 6
  have c7 := cell_of_blk hb3 7
  simp only [List.size_toArray, List.getElem?_toArray, List.getElem?_cons_zero, List.getElem?_cons_succ] at c0 c1 c2 c3 c4 c5 c6 c7
  have d0 := cell_of_blk hb9 0
  have d1 := cell_of_blk hb9 1
  have d2 := cell_of_blk hb9 2
  have d3 := cell_of_blk hb9 3
  have d4 := cell_of_blk hb9 4
  have d5 := cell_of_blk hb9 5
  have d6 := cell_of_blk hb9 6
  have d7 := cell_of_blk hb9 7
  simp only [List.size_toArray, List.getElem?_toArray, List.getElem?_cons_zero, List.getElem?_cons_succ] at d0 d1 d2 d3 d4 d5 d6 d7
  have HU8 := Lib.hid U
  clear u U hb3 hb9 C7
  go_wp2_with fail
  refine C8.mono ?_
  rintro e w9 ⟨rfl, u⟩
  have U := HU8.out.trans u
  have hc7 := cell_of_blk (Ext.blk U HB7.out) 7
  simp only [List.size_toArray, List.getElem?_toArray, List.getElem?_cons_zero, List.getElem?_cons_succ] at hc7
  have X := (Upd.refl none' w9).alloc (.cells #[.int .i64 0, .slice none 0 0, .slice none 0 0, .slice none 0 0, .slice none 0 0, .slice none 0 0, .slice none 0 0, .slice none 0 0, .slice none 0 0, .slice none 0 0, .slice none 0 0, .slice none 0 0, .slice none 0 0, .slice none 0 0, .slice none 0 0, .slice none 0 0, .slice none 0 0] 64)
  have hbk := blk_alloc w9 (.cells #[.int .i64 0, .slice none 0 0, .slice none 0 0, .slice none 0 0, .slice none 0 0, .slice none 0 0, .slice none 0 0, .slice none 0 0, .slice none 0 0, .slice none 0 0, .slice none 0 0, .slice none 0 0, .slice none 0 0, .slice none 0 0, .slice none 0 0, .slice none 0 0, .slice none 0 0] 64)
  have U10 := U.trans X
  have HB5 := Lib.hid (Ext.blk U10 HB5.out)
  have HB7 := Lib.hid (Ext.blk U10 HB7.out)
  have HB9 := Lib.hid (Ext.blk U10 HB9.out)
  have HO1 := Lib.hid (ownsRow_upd HO1.out U10 (fun _ _ e => e))
  have HO2 := Lib.hid (ownsRow_upd HO2.out U10 (fun _ _ e => e))
  have HO3 := Lib.hid (ownsRow_upd HO3.out U10 (fun _ _ e => e))
  have HU10 := Lib.hid (HU4.out.trans U10)
  have HBW := Lib.hid (Nat.le_trans HU4.out.size U.size)
  have HBK0 := Lib.hid hbk
  clear U X U10 hbk C8 c0 c1 c2 c3 c4 c5 c6 c7 d0 d1 d2 d3 d4 d5 d6 d7 u
  have c7 := hc7
  clear hc7
  go_upto_region 8 with fail
  clear c7
  generalize hbb : w9.heap.size = bk at *
  generalize hW10 : w9.alloc (.cells #[.int .i64 0, .slice none 0 0, .slice none 0 0, .slice none 0 0, .slice none 0 0, .slice none 0 0, .slice none 0 0, .slice none 0 0, .slice none 0 0, .slice none 0 0, .slice none 0 0, .slice none 0 0, .slice none 0 0, .slice none 0 0, .slice none 0 0, .slice none 0 0, .slice none 0 0] 64) = W10 at *
  have HK0 : HoldT w.heap.size W10 (.slice none 0 0) [] (fun _ => []) := ⟨own_nil, fun i h hi => by simp at hi, fun i j h h' g hi => by simp at hi⟩
  have CK := texts_any (N := 0) HBK0.out HK0 HO1.out (fun i h g hi => by simp at hi) HU10.out.size (by decide) (by decide)
  have d7 := cell_of_blk HB5.out 7
  simp only [List.size_toArray, List.getElem?_toArray, List.getElem?_cons_zero, List.getElem?_cons_succ] at d7
  have HNB5 := Lib.hid (show w2.heap.size ≠ bk from fun e => by
    have h1 := HB5.out; rw [e, HBK0.out] at h1
    simp only [Option.some.injEq, Obj.cells.injEq] at h1
    exact absurd h1.2.1 (by decide))
  have HNB7 := Lib.hid (show w3.heap.size ≠ bk from fun e => by
    have h1 := HB7.out; rw [e, HBK0.out] at h1
    simp only [Option.some.injEq, Obj.cells.injEq] at h1
    exact absurd h1.2.1 (by decide))
  have HNB9 := Lib.hid (show z4 ≠ bk from fun e => by
    have h1 := HB9.out; rw [e, HBK0.out] at h1
    simp only [Option.some.injEq, Obj.cells.injEq] at h1
    exact absurd h1.2.1 (by decide))
  clear HK0
  go_wp2_with fail
  refine CK.mono ?_
  rintro e w11 ⟨rfl, tv1, H1, hbk, u⟩
  simp only [List.nil_append, List.length_nil] at H1
  have hS : ∀ g, (g = bk ∨ (Value.slice none 0 0).ownBlock = some g) → g = bk := fun g h => h.elim id (fun h => by cases h)
  have HB7 := Lib.hid (u.blk HB7.out (fun h => HNB7.out (hS _ h)))
  have HB9 := Lib.hid (u.blk HB9.out (fun h => HNB9.out (hS _ h)))
  have HO2 := Lib.hid (ownsRow_upd HO2.out u (fun g hg h => by
    have e := hS _ h; subst e; exact row_not_book HO2.out HBK0.out (by decide) hg))
  have HO3 := Lib.hid (ownsRow_upd HO3.out u (fun g hg h => by
    have e := hS _ h; subst e; exact row_not_book HO3.out HBK0.out (by decide) hg))
  have HBKL := Lib.hid (show w.heap.size ≤ bk from HBW.out)
  have U11 := ext_then HU10.out u (fun g h => by rw [hS g h]; exact HBKL.out)
  have HU11 := Lib.hid U11
  have HBK1 := Lib.hid hbk
  have HH1 := Lib.hid H1
  have CK2 := texts_any (N := 1) hbk H1 HO2.out (fun i h g hi hg hg2 => by
    have hi0 : i = 0 := by have := (List.getElem?_eq_some_iff.1 hi).1; simp at this; exact this
    subst hi0
    simp only [List.getElem?_cons_zero, Option.some.injEq] at hi
    subst hi
    have h1 := (HL1.out g hg2).2
    have h2 := (HL2.out g hg).1
    omega) U11.size (by decide) (by simp)
  have c7 := cell_of_blk HB7.out 7
  simp only [List.size_toArray, List.getElem?_toArray, List.getElem?_cons_zero, List.getElem?_cons_succ] at c7
  clear H1 hbk u hS U11 CK d7
  go_wp2_with fail
  refine CK2.mono ?_
  rintro e w12 ⟨rfl, tv2, H2, hbk, u⟩
  simp only [List.cons_append, List.nil_append, List.length_cons, List.length_nil, Nat.zero_add] at H2
  have hS : ∀ g, (g = bk ∨ tv1.ownBlock = some g) → w.heap.size ≤ g := fun g h => h.elim (fun e => by rw [e]; exact HBKL.out) (fun h => (HH1.out.row.lt g h).1)
  have HB9 := Lib.hid (u.blk HB9.out (fun h => h.elim HNB9.out (fun h => row_not_ty HH1.out.row HB9.out (by decide) h)))
  have HO3 := Lib.hid (ownsRow_upd HO3.out u (fun g hg h => h.elim (fun e => by subst e; exact row_not_book HO3.out HBK1.out (by decide) hg) (fun h => own_apart HO3.out HH1.out.row (by decide) hg h)))
  have U12 := ext_then HU11.out u hS
  have HU12 := Lib.hid U12
  have HBK2 := Lib.hid hbk
  have HH2 := Lib.hid H2
  have CK3 := texts_any (N := 2) hbk H2 HO3.out (fun i h g hi hg hg2 => by
    have h3 := (HL3.out g hg).1
    have hi0 : i = 0 ∨ i = 1 := by have := (List.getElem?_eq_some_iff.1 hi).1; simp at this; omega
    rcases hi0 with rfl | rfl
    · simp only [List.getElem?_cons_zero, Option.some.injEq] at hi
      subst hi
      have h1 := (HL1.out g hg2).2
      have h4 := HS23.out
      omega
    · simp only [List.getElem?_cons_succ, List.getElem?_cons_zero, Option.some.injEq] at hi
      subst hi
      have h1 := (HL2.out g hg2).2
      omega) U12.size (by decide) (by simp)
  have c7 := cell_of_blk HB9.out 7
  simp only [List.size_toArray, List.getElem?_toArray, List.getElem?_cons_zero, List.getElem?_cons_succ] at c7
  clear H2 hbk u hS U12 CK2
  go_wp2_with fail
  refine CK3.mono ?_
  rintro e w13 ⟨rfl, tv3, H3, hbk, u⟩
  simp only [List.cons_append, List.nil_append, List.length_cons, List.length_nil, Nat.zero_add] at H3
  have hS : ∀ g, (g = bk ∨ tv2.ownBlock = some g) → w.heap.size ≤ g := fun g h => h.elim (fun e => by rw [e]; exact HBKL.out) (fun h => (HH2.out.row.lt g h).1)
  have U13 := ext_then HU12.out u hS
  have HU13 := Lib.hid U13
  have HH3 := Lib.hid H3
  have CA := apartT_any hbk (fun c h1 h2 h3 => bookC_nil _ _ c h1 h2 h3) rfl H3 (HTB.out.ext U13) HPL.out U13.size (by simp) (fun i h hi => by
    have hi0 : i = 0 ∨ i = 1 ∨ i = 2 := by have := (List.getElem?_eq_some_iff.1 hi).1; simp at this; omega
    rcases hi0 with rfl | rfl | rfl
    · simp only [List.getElem?_cons_zero, Option.some.injEq] at hi
      subst hi; exact ⟨by show q.leaves.length ≤ _; omega, (by decide : 1 ≤ 1000000000), rfl⟩
    · simp only [List.getElem?_cons_succ, List.getElem?_cons_zero, Option.some.injEq] at hi
      subst hi; exact ⟨(by decide : 2 ≤ 1000000000), (by decide : 2 ≤ 1000000000), rfl⟩
    · simp only [List.getElem?_cons_succ, List.getElem?_cons_zero, Option.some.injEq] at hi
      subst hi; exact ⟨by show q.leaves.length ≤ _; omega, (by decide : 3 ≤ 1000000000), rfl⟩)
  clear H3 hbk u hS U13 CK3 c7
  go_wp2_with fail
  refine CA.mono ?_
  rintro e w14 ⟨rfl, u⟩
  have U14 := ext_then HU13.out u (fun g h => h.elim (fun ⟨i, hd, hi, hg⟩ => ((HH3.out.own i hd hi).lt g hg).1) (fun h => (HH3.out.row.lt g h).1))
  have HU14 := Lib.hid U14
  have CL := alive_any (HG.out.ext U14) (HA.out.ext U14)
  clear u U14 CA
  go_wp2_with fail
  refine CL.mono ?_
  rintro e w15 ⟨rfl, u⟩
  have HU15 := Lib.hid (HU14.out.trans u)
  clear u CL
  go_wp2_with fail
  go_ret
  exact ⟨rfl, HU15.out⟩
end Go.Proofs.YtljnhelnmnomoaaGreatDoor
