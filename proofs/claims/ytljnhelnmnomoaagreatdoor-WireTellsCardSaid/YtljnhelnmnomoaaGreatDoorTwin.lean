/- The statements' copies of hashes with a mark behind: markHash, isHash, TwinHashes, TwinAnswer, LeftHashes, LeftAnswer. The statements' TwinHashes, TwinAnswer, LeftHashes, LeftAnswer. The statements' TwinAnswer, LeftHashes, LeftAnswer. The statements' copies of texts with a mark behind: word, markText, isText, TwinTexts, LeftTexts. The statements' TwinQuery and LeftQuery. -/
import Derived.Test.YtljnhelnmnomoaaGreatDoorSame
import Derived.OwnWalk
import Derived.Test.YtljnhelnmnomoaaGreatDoorDecAt
import Derived.Test.YtljnhelnmnomoaaGreatDoorWord
import Derived.Test.YtljnhelnmnomoaaGreatDoorQAt
namespace Go.Proofs.YtljnhelnmnomoaaGreatDoor
open Go.RowKit Go.Lib


def markH : List UInt8 := [97, 30, 0, 0, 0, 0, 0, 0, 0, 0, 0, 0, 0, 0, 0, 0, 0, 0, 0, 0, 0, 0, 0, 0, 0, 0, 0, 0, 0, 0, 0, 201]
abbrev markV : List Value := [.int .u8 97, .int .u8 30, .int .u8 0, .int .u8 0, .int .u8 0, .int .u8 0, .int .u8 0, .int .u8 0, .int .u8 0, .int .u8 0, .int .u8 0, .int .u8 0, .int .u8 0, .int .u8 0, .int .u8 0, .int .u8 0, .int .u8 0, .int .u8 0, .int .u8 0, .int .u8 0, .int .u8 0, .int .u8 0, .int .u8 0, .int .u8 0, .int .u8 0, .int .u8 0, .int .u8 0, .int .u8 0, .int .u8 0, .int .u8 0, .int .u8 0, .int .u8 201]
theorem markV_is : markH.map u8v = markV := by rfl
theorem markH_len : markH.length = 32 := rfl
theorem resM (tmps : Array Value) (w : World) (g : Nat) (cs : Array Value) (hp : tmps.getD 2 undef = .pointer (some ⟨g, 0, none⟩)) (hg : w.heap[g]? = some (.cells cs 120 (0, 0))) (hs : cs.size = 32) :
    (results Tryz.f131 tmps).run Tryz.prog w = .ok (.agg cs) w :=
  results_cell_row rfl tmps w g 120 cs (0, 0) _ hp hg Tryz.underlying120 rfl (by rw [hs]; exact hash_size')
theorem mark_one : ∀ u ∈ markV, u.oneCell' = true := by rw [← markV_is]; exact hash_one markH
set_option maxRecDepth 8000 in
theorem mark_any (w : World) : Calls Tryz.prog 131 #[.int .i64 7777] w fun e w' => e = .returned (.agg (markH.map u8v).toArray) ∧ Ext w w' := by
  rw [markV_is]
  have hb0 := blk_alloc w (.cells zero32 120)
  have hb := blk_setRow hb0 markV.toArray
  have X := ((Upd.refl none' w).alloc (.cells zero32 120)).setRow (g := w.heap.size) (.inl (Nat.le_refl _)) markV.toArray
  have HX := Lib.hid X
  have HB := Lib.hid hb
  have HB0 := Lib.hid hb0
  have HO := Lib.hid mark_one
  clear X hb hb0
  go_enter Tryz.func131, Tryz.ntmps131
  go_wp2_with (refine store_whole rfl 120 _ _ rfl w.heap.size rfl markV rfl hash_size' zero32.toList 120 HB0.out rfl HO.out ?_)
  exact bodyPost_ret (v := .agg markV.toArray) (resM _ _ w.heap.size markV.toArray rfl HB.out rfl) rfl ⟨rfl, HX.out⟩
theorem mark_same (w : World) : (Op.equalIn 10000 120 (.agg markV.toArray) (.agg markV.toArray)).run Tryz.prog w = .ok true w := by rw [← markV_is]; exact hash_same markH rfl w
set_option maxRecDepth 8000 in
theorem isHash_any (w : World) : Calls Tryz.prog 146 #[.agg (markH.map u8v).toArray, .int .i64 7777] w fun e w' => e = .returned (.bool true) ∧ Ext w w' := by
  rw [markV_is]
  have hb := blk_alloc w (.cells markV.toArray 120)
  have X := (Upd.refl none' w).alloc (.cells markV.toArray 120)
  have HX := Lib.hid X
  have HL := Lib.hid (fun (j : Nat) (v : Value) (hv : markV[j]? = some v) => show World.cell? _ ⟨w.heap.size, 0 + j, none⟩ = some v from by rw [cell_of_blk hb]; simpa using hv)
  have HS := Lib.hid mark_same
  clear X hb
  go_enter Tryz.func146, Tryz.ntmps146
  go_wp2_with (first
    | (refine wpList_loadAgg rfl 120 _ rfl w.heap.size 0 rfl markV Tryz.underlying120 rfl hash_size' HL.out ?_)
    | (refine wpList_eqlAgg rfl 120 _ _ _ rfl markV.toArray markV.toArray rfl rfl guard_hash (HS.out _) ?_))
  go_ret
  exact ⟨rfl, HX.out⟩

/-- The copy: the hashes, and the mark behind them. -/
def TwinAt (w : World) (g : Nat) (l : List (List UInt8)) : Prop := w.heap[g]? = some (.cells (hashCells l ++ markV).toArray 120 (0, 0))
theorem hcells_len (l : List (List UInt8)) (h : ∀ t ∈ l, t.length = 32) : (hashCells l).length = l.length * 32 := by
  unfold hashCells
  induction l with
  | nil => rfl
  | cons a t ih => rw [List.flatMap_cons, List.length_append, ih (fun x hx => h x (by simp [hx])), List.length_map, h a (by simp), List.length_cons]; omega
theorem TwinAt.hashes {w : World} {g : Nat} {l : List (List UInt8)} (h : TwinAt w g l) (hl : ∀ t ∈ l, t.length = 32) : HashesAt w (some ⟨g, 0, none⟩) l := fun i x hx => by
  have hx32 := hl x (List.mem_of_getElem? hx)
  refine ⟨hx32, g, 0, rfl, fun j u hu => ?_⟩
  have hj : j < 32 := by
    have := (List.getElem?_eq_some_iff.1 hu).1
    rw [List.length_map, hx32] at this; exact this
  have hi : i < l.length := (List.getElem?_eq_some_iff.1 hx).1
  rw [cell_of_blk h, List.getElem?_toArray, Nat.zero_add, List.getElem?_append_left (by rw [hcells_len l hl]; omega), hcells_at l hl i j x hx hj]
  exact hu
theorem TwinAt.mark {w : World} {g : Nat} {l : List (List UInt8)} (h : TwinAt w g l) (hl : ∀ t ∈ l, t.length = 32) (j : Nat) (u : Value) (hu : markV[j]? = some u) : w.cell? ⟨g, l.length * 32 + j, none⟩ = some u := by
  rw [cell_of_blk h, List.getElem?_toArray, List.getElem?_append_right (by rw [hcells_len l hl]; omega), hcells_len l hl, Nat.add_sub_cancel_left]
  exact hu
theorem over_mid (A R vs : List Value) : over (A ++ R) A.length vs = A ++ (vs ++ R.drop vs.length) := by
  unfold over
  rw [List.take_left, ← List.drop_drop, List.drop_left]
theorem info_hash' : (Tryz.prog.info? 120).map (fun i => (i.zero, i.size, i.bytes)) = some (some (.agg zero32), 32, 32) := by kernel_rfl

theorem wpList_loadAggG {P : Program} {w : World} {ops : Array Oper} {rest : List Oper} {o : Oper} {a : Act} {Q : Exit → Act → World → Prop} (hw : Region.wanted o (yielded ops a.tmps) = true) (ty : TypeId) (x : Operand) (ho : o.op = .load ty x)
    (g off : Nat) (hx : a.eval x = .pointer (some ⟨g, off, none⟩)) (vs : List Value) {d : TypeDesc} (hu : P.underlying ty = some d) (hd : aggD d = true) (hi : (P.info? ty).map (·.size) = some vs.length)
    (hc : ∀ j v, vs[j]? = some v → w.cell? ⟨g, off + j, none⟩ = some v)
    (h : wpList P ops Q rest (a.put o.dst (.agg vs.toArray)) w) : wpList P ops Q (o :: rest) a w := by
  refine wpList_step fun K hK => ?_
  rw [if_pos hw]
  unfold Oper.wp execOp
  simp only [ho, hx, Instr.loadAt, Instr.sureAddr, Sem.run_bind, Sem.run_pure, Result.andThen_ok, run_loadVar_at g off ty vs hu hd hi hc]
  exact hK _ _ h

/-- The copy: the texts, and the mark behind them. -/
def TwinTAt (w : World) (g : Nat) (l : List ByteArray) : Prop := w.heap[g]? = some (.cells (textCells l ++ [Value.string (str (wordL 7777))]).toArray 9 (0, 0))
theorem tcells_len (l : List ByteArray) : (textCells l).length = l.length := by simp [textCells]
theorem TwinTAt.texts {w : World} {g : Nat} {l : List ByteArray} (h : TwinTAt w g l) (hl : ∀ t ∈ l, t.size ≤ 9223372036854775807) : TextsAt w (some ⟨g, 0, none⟩) l := fun i s hs => by
  refine ⟨hl s (List.mem_of_getElem? hs), g, 0, rfl, ?_⟩
  have hi : i < l.length := (List.getElem?_eq_some_iff.1 hs).1
  rw [cell_of_blk h, List.getElem?_toArray, Nat.zero_add, List.getElem?_append_left (by rw [tcells_len]; exact hi)]
  simp [textCells, hs]
theorem TwinTAt.mark {w : World} {g : Nat} {l : List ByteArray} (h : TwinTAt w g l) : w.cell? ⟨g, l.length, none⟩ = some (.string (str (wordL 7777))) := by
  rw [cell_of_blk h, List.getElem?_toArray, List.getElem?_append_right (by rw [tcells_len]; omega), tcells_len]
  simp
theorem info_string' : (Tryz.prog.info? 9).map (fun i => (i.zero, i.size, i.bytes)) = some (some (.string ⟨#[]⟩), 1, 16) := by kernel_rfl
theorem tcells_snoc (l : List ByteArray) (j : Nat) (s : ByteArray) (R : List Value) (hg : l[j]? = some s) (hR : 0 < R.length) : (textCells (l.take j) ++ R).set j (.string s) = textCells (l.take (j + 1)) ++ R.drop 1 := by
  have hj : j < l.length := (List.getElem?_eq_some_iff.1 hg).1
  have hl : (textCells (l.take j)).length = j := by rw [tcells_len, List.length_take]; omega
  cases R with
  | nil => simp at hR
  | cons r R =>
    rw [List.set_append_right _ _ (by omega), hl, Nat.sub_self, List.set_cons_zero, List.take_add_one, hg]
    simp [textCells]

set_option maxRecDepth 8000 in
set_option maxHeartbeats 4000000 in
theorem twinT_any {w : World} {a : Option Addr} {l : List ByteArray} (h : TextsAt w a l) (ca : Nat) (hn : l.length ≤ 1048576) (T : Tab10 w) :
    Calls Tryz.prog 23 #[.slice a l.length ca] w fun e w' => e = .returned (.slice (some ⟨w.heap.size, 0, none⟩) l.length (l.length + 1)) ∧ TwinTAt w' w.heap.size l ∧ Ext w w' := by
  obtain ⟨i0, hi0, hz0, hz1, hz2⟩ := info_parts info_string'
  have HH := Lib.hid h
  have hb1 : 16 * (l.length + 1) ≤ 281474976710656 := by omega
  have hb2 : l.length + 1 ≤ maxLen := by unfold maxLen; omega
  have HB1 := Lib.hid (show i0.bytes * (l.length + 1) ≤ 281474976710656 by rw [hz2]; exact hb1)
  have HB2 := Lib.hid hb2
  have HT := Lib.hid T
  have hni : (l.length : Int) ≤ 1048576 := by omega
  clear h hb1 hb2 T
  go_enter Tryz.func23, Tryz.ntmps23
  go_wp2_with (refine wpList_make_full _ rfl _ _ 25 rfl w.heap.size 9 i0 _ 1 Tryz.underlying25 hi0 hz0 hz1 .i64 .i64 (l.length + 1) (l.length + 1) (l.length + 1) rfl rfl (by simp) (by simp) HB1.out HB2.out (Nat.le_refl _) ?_)
  intro w1 hown hgrow
  have HE1 := Lib.hid ((Upd.refl none' w).grown hgrow (fun k hk => by cases hk))
  have hblk : ∃ R : List Value, R.length = (l.length + 1) * 1 ∧ w1.heap[w.heap.size]? = some (.cells R.toArray 9 (0, 0)) := by
    rcases hown.2 with ⟨hv, _⟩ | ⟨g, cap, cur, hv, hb, hg, hnc, hcm, hcs, ht⟩
    · cases hv
    · simp only [Value.slice.injEq, Option.some.injEq, Addr.mk.injEq, and_true, true_and] at hv
      obtain ⟨rfl, _, rfl⟩ := hv
      obtain ⟨cl⟩ := cur
      exact ⟨cl, by simpa using hcs, hg⟩
  obtain ⟨R, hR, hblk⟩ := hblk
  have HBK := Lib.hid hblk
  have HR := Lib.hid hR
  clear hown hgrow hblk hR
  go_wp2_with fail
  go_loopw [4] (fun iv wr => ∃ (j : Nat) (R : List Value), iv = .int .i64 j ∧ j ≤ l.length ∧ R.length = l.length + 1 - j ∧ wr.heap[w.heap.size]? = some (.cells (textCells (l.take j) ++ R).toArray 9 (0, 0)) ∧ Ext w wr) (fun iv _ => l.length - (RowKit.intOf iv).toNat)
  case atStart => exact ⟨0, R, rfl, Nat.zero_le _, by rw [HR.out]; omega, by simpa [textCells] using HBK.out, HE1.out⟩
  case round =>
    obtain ⟨j, R2, rfl, hj, hr2, hb, u⟩ := hrel
    have HU := Lib.hid u
    have HB := Lib.hid hb
    have HR2 := Lib.hid hr2
    clear u hb hr2
    have htl : (textCells (l.take j)).length = j := by rw [tcells_len, List.length_take]; omega
    have HTL := Lib.hid htl
    clear htl
    by_cases hlt : j < l.length
    · have hg := List.getElem?_eq_getElem hlt
      obtain ⟨hh, b, o, rfl, hc⟩ := (HH.out.later HU.out) j _ hg
      have hlti : (j : Int) < l.length := by omega
      have hlt1 : (j : Int) < l.length + 1 := by omega
      have HG := Lib.hid hg
      generalize l[j] = t at *
      have f0 := free_of_blk HB.out j
      have c0 : ∃ v, wr.cell? ⟨w.heap.size, j, none⟩ = some v := by
        rw [cell_of_blk HB.out]
        exact ⟨_, Array.getElem?_eq_getElem (by simp only [List.size_toArray, List.length_append]; have := HTL.out; have := HR2.out; omega)⟩
      obtain ⟨v0, c0⟩ := c0
      have hset := blk_set HB.out j (.string t)
      have hcs : (textCells (l.take j) ++ R2).toArray.setIfInBounds j (.string t) = (textCells (l.take (j + 1)) ++ R2.drop 1).toArray := by
        rw [List.setIfInBounds_toArray, tcells_snoc l j t R2 HG.out (by rw [HR2.out]; omega)]
      rw [hcs] at hset
      have HS := Lib.hid hset
      have HU2 := Lib.hid (HU.out.setCell (p := ⟨w.heap.size, j, none⟩) (.inl (Nat.le_refl _)) (.string t))
      clear hset hcs hg hh
      go_wp2_with fail
      exact ⟨⟨j + 1, R2.drop 1, by simp, by omega, by rw [List.length_drop, HR2.out]; omega, HS.out, HU2.out⟩, by simp [RowKit.intOf]; omega⟩
    · obtain rfl : j = l.length := by omega
      have hlt1 : (l.length : Int) < l.length + 1 := by omega
      have hb2 := HB.out
      rw [List.take_length] at hb2
      have CM := markText_any 7777 (by omega) (HT.out.ext HU.out)
      have HB := Lib.hid hb2
      clear hb2
      go_wp2_with fail
      refine CM.mono ?_
      rintro e w2 ⟨rfl, u⟩
      have hb3 := Ext.blk u HB.out
      have f0 := free_of_blk hb3 l.length
      have hsz : (textCells l ++ R2).length = l.length + 1 := by rw [List.length_append, tcells_len, HR2.out]; omega
      have c0 : ∃ v, w2.cell? ⟨w.heap.size, l.length, none⟩ = some v := by
        rw [cell_of_blk hb3]
        exact ⟨_, Array.getElem?_eq_getElem (by simp only [List.size_toArray]; omega)⟩
      obtain ⟨v0, c0⟩ := c0
      have hset := blk_set hb3 l.length (.string (str (wordL 7777)))
      have hcs : (textCells l ++ R2).toArray.setIfInBounds l.length (.string (str (wordL 7777))) = (textCells l ++ [Value.string (str (wordL 7777))]).toArray := by
        rw [List.setIfInBounds_toArray, List.set_append_right _ _ (by rw [tcells_len]; omega), tcells_len, Nat.sub_self]
        have h1 := HR2.out
        rw [show l.length + 1 - l.length = 1 by omega] at h1
        match R2, h1 with
        | [r], _ => rfl
      rw [hcs] at hset
      have HS : Hid (TwinTAt _ w.heap.size l) := Lib.hid hset
      have HU3 := Lib.hid ((HU.out.trans u).setCell (p := ⟨w.heap.size, l.length, none⟩) (.inl (Nat.le_refl _)) (.string (str (wordL 7777))))
      clear u CM hset hcs hb3 hsz
      go_wp2_with fail
      go_ret
      exact ⟨rfl, HS.out, HU3.out⟩
set_option maxRecDepth 8000 in
theorem leftT_any {w : World} {g : Nat} {a : Option Addr} {l : List ByteArray} (ht : TwinTAt w g l) (h : TextsAt w a l) (hl : ∀ t ∈ l, t.size ≤ 9223372036854775807) (ca : Nat) (hn : l.length ≤ 1048576) (T : Tab10 w) :
    Calls Tryz.prog 40 #[.slice (some ⟨g, 0, none⟩) l.length (l.length + 1), .slice a l.length ca] w fun e w' => e = .returned (.bool true) ∧ Ext w w' := by
  have C := sameTexts_any (ht.texts hl) h (l.length + 1) ca (by omega)
  have HT := Lib.hid ht
  have HTT := Lib.hid T
  have hni : (l.length : Int) ≤ 1048576 := by omega
  have hlt1 : (l.length : Int) < l.length + 1 := by omega
  clear ht h hl T
  go_enter Tryz.func40, Tryz.ntmps40
  go_wp2_with fail
  refine C.mono ?_
  rintro e w1 ⟨rfl, u⟩
  have HT1 : Hid (TwinTAt w1 g l) := Lib.hid (Ext.blk u HT.out)
  have HU := Lib.hid u
  have cm := HT1.out.mark
  have CI := isText_any 7777 (by omega) (HTT.out.ext u)
  clear u C
  go_wp2_with fail
  refine CI.mono ?_
  rintro e w2 ⟨rfl, u⟩
  have HU2 := Lib.hid (HU.out.trans u)
  clear u
  go_wp2_with fail
  go_ret
  exact ⟨rfl, HU2.out⟩

theorem resTQ (tmps : Array Value) (w : World) (g : Nat) (cs : Array Value) (hp : tmps.getD 2 undef = .pointer (some ⟨g, 0, none⟩)) (hg : w.heap[g]? = some (.cells cs 27 (0, 0))) (hs : cs.size = 8) :
    (results Tryz.f8 tmps).run Tryz.prog w = .ok (.agg cs) w :=
  results_cell_row rfl tmps w g 27 cs (0, 0) _ hp hg Tryz.underlying27 rfl (by rw [hs]; exact qry_size)
set_option maxRecDepth 8000 in
theorem twinQ_any {w : World} (x : QryD) {a : Option Addr} (h : TextsAt w a x.leaves) (ca : Nat) (hn : x.leaves.length ≤ 1048576) (T : Tab10 w) :
    Calls Tryz.prog 8 #[.agg (qCells x (.slice a x.leaves.length ca)).toArray] w fun e w' => ∃ g, e = .returned (.agg (qCells x (.slice (some ⟨g, 0, none⟩) x.leaves.length (x.leaves.length + 1))).toArray) ∧ TwinTAt w' g x.leaves ∧ Ext w w' := by
  have X := ((Upd.refl none' w).alloc (.cells (qCells x (.slice a x.leaves.length ca)).toArray 27)).alloc (.cells zeroQry.toArray 27)
  have hb := blk_alloc_lt (blk_alloc w (.cells (qCells x (.slice a x.leaves.length ca)).toArray 27)) (.cells zeroQry.toArray 27)
  have hz := blk_alloc (w.alloc (.cells (qCells x (.slice a x.leaves.length ca)).toArray 27)) (.cells zeroQry.toArray 27)
  have C := twinT_any (h.later X) ca hn (T.ext X)
  rw [World.size_alloc, World.size_alloc] at C
  rw [World.size_alloc] at hz
  have c7 := cell_of_blk hb 7
  simp only [qCells, zeroQry] at X hb hz C c7 ⊢
  simp only [List.size_toArray, List.getElem?_toArray, List.getElem?_cons_zero, List.getElem?_cons_succ] at c7
  have HX := Lib.hid X
  have HB := Lib.hid hb
  have HZ := Lib.hid hz
  clear X hb hz h T
  go_enter Tryz.func8, Tryz.ntmps8
  go_wp2_with fail
  refine C.mono ?_
  rintro e w1 ⟨rfl, ht, u⟩
  have hb1 := Ext.blk u HB.out
  have hz1 := Ext.blk u HZ.out
  have c7 := cell_of_blk hb1 7
  have f7 := free_of_blk hb1 7
  simp only [List.size_toArray, List.getElem?_toArray, List.getElem?_cons_zero, List.getElem?_cons_succ] at c7
  have hb2 := blk_set hb1 7 (.slice (some ⟨w.heap.size + 1 + 1, 0, none⟩) x.leaves.length (x.leaves.length + 1))
  simp only [Array.setIfInBounds, List.size_toArray, List.length_cons, List.length_nil, Nat.reduceAdd, Nat.reduceLT, dite_true] at hb2
  have hz2 := blk_set_ne hz1 (p := ⟨w.heap.size, 7, none⟩) (by show w.heap.size + 1 ≠ w.heap.size; omega) (.slice (some ⟨w.heap.size + 1 + 1, 0, none⟩) x.leaves.length (x.leaves.length + 1))
  have ht2 := blk_set_ne ht (p := ⟨w.heap.size, 7, none⟩) (by show w.heap.size + 1 + 1 ≠ w.heap.size; omega) (.slice (some ⟨w.heap.size + 1 + 1, 0, none⟩) x.leaves.length (x.leaves.length + 1))
  have hu2 : Ext w (w1.setCell ⟨w.heap.size, 7, none⟩ (.slice (some ⟨w.heap.size + 1 + 1, 0, none⟩) x.leaves.length (x.leaves.length + 1))) := (HX.out.trans u).setCell (.inl (Nat.le_refl _)) _
  have HL := Lib.hid (fun (j : Nat) (u : Value) (hu : ([.int .u8 x.kind, .int .u8 x.engine, .int .u64 x.size, .int .u64 x.index, .int .u64 x.old, .int .u64 x.bgn, .int .u64 x.fin, .slice (some ⟨w.heap.size + 1 + 1, 0, none⟩) x.leaves.length (x.leaves.length + 1)] : List Value)[j]? = some u) => show World.cell? _ ⟨w.heap.size, 0 + j, none⟩ = some u from by rw [cell_of_blk hb2]; simpa using hu)
  have HZ2 := Lib.hid hz2
  have hF := Lib.hid (blk_setRow hz2 #[.int .u8 x.kind, .int .u8 x.engine, .int .u64 x.size, .int .u64 x.index, .int .u64 x.old, .int .u64 x.bgn, .int .u64 x.fin, .slice (some ⟨w.heap.size + 1 + 1, 0, none⟩) x.leaves.length (x.leaves.length + 1)])
  have HT := Lib.hid (blk_setRow_ne ht2 (by omega : w.heap.size + 1 + 1 ≠ w.heap.size + 1) #[.int .u8 x.kind, .int .u8 x.engine, .int .u64 x.size, .int .u64 x.index, .int .u64 x.old, .int .u64 x.bgn, .int .u64 x.fin, .slice (some ⟨w.heap.size + 1 + 1, 0, none⟩) x.leaves.length (x.leaves.length + 1)])
  have HU := Lib.hid (hu2.setRow (g := w.heap.size + 1) (.inl (by omega)) #[.int .u8 x.kind, .int .u8 x.engine, .int .u64 x.size, .int .u64 x.index, .int .u64 x.old, .int .u64 x.bgn, .int .u64 x.fin, .slice (some ⟨w.heap.size + 1 + 1, 0, none⟩) x.leaves.length (x.leaves.length + 1)])
  have HO := Lib.hid (qry_one x (.slice (some ⟨w.heap.size + 1 + 1, 0, none⟩) x.leaves.length (x.leaves.length + 1)) rfl)
  simp only [qCells] at HO
  clear C u hb1 hz1 hb2 hz2 ht ht2 hu2
  go_wp2_with (first
    | (refine wpList_loadAgg rfl 27 _ rfl w.heap.size 0 rfl [.int .u8 x.kind, .int .u8 x.engine, .int .u64 x.size, .int .u64 x.index, .int .u64 x.old, .int .u64 x.bgn, .int .u64 x.fin, .slice (some ⟨w.heap.size + 1 + 1, 0, none⟩) x.leaves.length (x.leaves.length + 1)] Tryz.underlying27 rfl qry_size HL.out ?_)
    | (refine store_whole rfl 27 _ _ rfl (w.heap.size + 1) rfl [.int .u8 x.kind, .int .u8 x.engine, .int .u64 x.size, .int .u64 x.index, .int .u64 x.old, .int .u64 x.bgn, .int .u64 x.fin, .slice (some ⟨w.heap.size + 1 + 1, 0, none⟩) x.leaves.length (x.leaves.length + 1)] rfl qry_size zeroQry 27 HZ2.out rfl HO.out ?_))
  exact bodyPost_ret (v := .agg #[.int .u8 x.kind, .int .u8 x.engine, .int .u64 x.size, .int .u64 x.index, .int .u64 x.old, .int .u64 x.bgn, .int .u64 x.fin, .slice (some ⟨w.heap.size + 1 + 1, 0, none⟩) x.leaves.length (x.leaves.length + 1)]) (resTQ _ _ (w.heap.size + 1) _ rfl hF.out rfl) rfl ⟨w.heap.size + 1 + 1, rfl, HT.out, HU.out⟩
theorem leftQ_any {w : World} (x : QryD) (hl : ∀ t ∈ x.leaves, t.size ≤ 9223372036854775807) {g : Nat} {a : Option Addr} (ht : TwinTAt w g x.leaves) (h : TextsAt w a x.leaves) (ca : Nat) (hn : x.leaves.length ≤ 1048576) (T : Tab10 w) :
    Calls Tryz.prog 12 #[.agg (qCells x (.slice (some ⟨g, 0, none⟩) x.leaves.length (x.leaves.length + 1))).toArray, .agg (qCells x (.slice a x.leaves.length ca)).toArray] w fun e w' => e = .returned (.bool true) ∧ Ext w w' := by
  have X := ((Upd.refl none' w).alloc (.cells (qCells x (.slice (some ⟨g, 0, none⟩) x.leaves.length (x.leaves.length + 1))).toArray 27)).alloc (.cells (qCells x (.slice a x.leaves.length ca)).toArray 27)
  have hb1 := blk_alloc_lt (blk_alloc w (.cells (qCells x (.slice (some ⟨g, 0, none⟩) x.leaves.length (x.leaves.length + 1))).toArray 27)) (.cells (qCells x (.slice a x.leaves.length ca)).toArray 27)
  have hb2 := blk_alloc (w.alloc (.cells (qCells x (.slice (some ⟨g, 0, none⟩) x.leaves.length (x.leaves.length + 1))).toArray 27)) (.cells (qCells x (.slice a x.leaves.length ca)).toArray 27)
  rw [World.size_alloc] at hb2
  have ht1 : TwinTAt _ g x.leaves := Ext.blk X ht
  have CS := sameQ_any x (by omega) (ht1.texts hl) (h.later X) (x.leaves.length + 1) ca
  simp only [qCells] at X hb1 hb2 CS ⊢
  have HX := Lib.hid X
  have HB1 := Lib.hid hb1
  have HB2 := Lib.hid hb2
  have HT := Lib.hid ht
  have HTT := Lib.hid T
  have HH := Lib.hid h
  have HOK := Lib.hid hl
  clear X hb1 hb2 ht ht1 h hl T
  go_enter Tryz.func12, Tryz.ntmps12
  go_wp2_with fail
  refine CS.mono ?_
  rintro e w1 ⟨rfl, u⟩
  have b1 := Ext.blk u HB1.out
  have b2 := Ext.blk u HB2.out
  have c7 := cell_of_blk b1 7
  have d7 := cell_of_blk b2 7
  simp only [List.size_toArray, List.getElem?_toArray, List.getElem?_cons_zero, List.getElem?_cons_succ] at c7 d7
  have u1 := HX.out.trans u
  have CL := leftT_any (w := w1) (g := g) (Ext.blk u1 HT.out) (HH.out.later u1) HOK.out ca hn (HTT.out.ext u1)
  have HU := Lib.hid u1
  clear u u1 CS b1 b2
  go_wp2_with fail
  refine CL.mono ?_
  rintro e w2 ⟨rfl, u⟩
  have HU2 := Lib.hid (HU.out.trans u)
  clear u CL
  go_wp2_with fail
  go_ret
  exact ⟨rfl, HU2.out⟩
end Go.Proofs.YtljnhelnmnomoaaGreatDoor
