/- The statements' marks as hashes: markHash, isHash by contracts, of any number. A Book's hashes: they are written over by marks, more is put behind each, and all are looked at. A Book's hashes: more is put behind each. A Book's hashes are looked at. A Book is told a list of hashes. A Book that was told hashes alone: Apart. PRINTED by wip/tools/gen_bookha.py. -/
import Derived.Test.YtljnhelnmnomoaaGreatDoorTwin
import Derived.Test.YtljnhelnmnomoaaGreatDoorBook
import Derived.Test.YtljnhelnmnomoaaGreatDoorDecA
namespace Go.Proofs.YtljnhelnmnomoaaGreatDoor
open Go.RowKit Go.Lib


def markNL (n : Nat) : List UInt8 := [UInt8.ofNat n, UInt8.ofNat (n / 256), UInt8.ofNat (n / 65536), 0, 0, 0, 0, 0, 0, 0, 0, 0, 0, 0, 0, 0, 0, 0, 0, 0, 0, 0, 0, 0, 0, 0, 0, 0, 0, 0, 0, 201]
def markN (n : Nat) : List Value := (markNL n).map u8v
theorem markN_len (n : Nat) : (markN n).length = 32 := rfl
theorem markN_one (n : Nat) : ∀ u ∈ markN n, u.oneCell' = true := hash_one (markNL n)
theorem wrap8 (n : Nat) : IntKind.u8.wrap (n : Int) = ((UInt8.ofNat n).toNat : Int) := by
  rw [UInt8.toNat_ofNat']
  unfold IntKind.wrap
  simp [IntKind.bits, IntKind.signed]
theorem markN_is (n : Nat) : markN n = [.int .u8 ((UInt8.ofNat n).toNat : Int), .int .u8 ((UInt8.ofNat (n / 256)).toNat : Int), .int .u8 ((UInt8.ofNat (n / 65536)).toNat : Int), .int .u8 0, .int .u8 0, .int .u8 0, .int .u8 0, .int .u8 0, .int .u8 0, .int .u8 0, .int .u8 0, .int .u8 0, .int .u8 0, .int .u8 0, .int .u8 0, .int .u8 0, .int .u8 0, .int .u8 0, .int .u8 0, .int .u8 0, .int .u8 0, .int .u8 0, .int .u8 0, .int .u8 0, .int .u8 0, .int .u8 0, .int .u8 0, .int .u8 0, .int .u8 0, .int .u8 0, .int .u8 0, .int .u8 201] := rfl
set_option maxRecDepth 8000 in
theorem markHash_any (n : Nat) (hn : n ≤ 1000000000) (w : World) : Calls Tryz.prog 131 #[.int .i64 n] w fun e w' => e = .returned (.agg (markN n).toArray) ∧ Ext w w' := by
  have hb0 := blk_alloc w (.cells zero32 120)
  have hb := blk_setRow hb0 (markN n).toArray
  have X := ((Upd.refl none' w).alloc (.cells zero32 120)).setRow (g := w.heap.size) (.inl (Nat.le_refl _)) (markN n).toArray
  have HX := Lib.hid X
  have HB := Lib.hid hb
  have HB0 := Lib.hid hb0
  have HO := Lib.hid (markN_one n)
  have e1 : IntKind.u8.wrap (n : Int) = ((UInt8.ofNat n).toNat : Int) := wrap8 n
  have e2 : IntKind.u8.wrap ((n : Int).tdiv 256) = ((UInt8.ofNat (n / 256)).toNat : Int) := wrap8 (n / 256)
  have e3 : IntKind.u8.wrap ((n : Int).tdiv 65536) = ((UInt8.ofNat (n / 65536)).toNat : Int) := wrap8 (n / 65536)
  clear X hb hb0
  go_enter Tryz.func131, Tryz.ntmps131
  go_wp2_with (refine store_whole rfl 120 _ _ rfl w.heap.size rfl (markN n) rfl hash_size' zero32.toList 120 HB0.out rfl HO.out ?_)
  exact bodyPost_ret (v := .agg (markN n).toArray) (resM _ _ w.heap.size (markN n).toArray rfl HB.out rfl) rfl ⟨rfl, HX.out⟩
theorem markN_same (n : Nat) (w : World) : (Op.equalIn 10000 120 (.agg (markN n).toArray) (.agg (markN n).toArray)).run Tryz.prog w = .ok true w := hash_same (markNL n) rfl w
set_option maxRecDepth 8000 in
theorem isHashN_any (n : Nat) (hn : n ≤ 1000000000) (w : World) : Calls Tryz.prog 146 #[.agg (markN n).toArray, .int .i64 n] w fun e w' => e = .returned (.bool true) ∧ Ext w w' := by
  have hb := blk_alloc w (.cells (markN n).toArray 120)
  have X := (Upd.refl none' w).alloc (.cells (markN n).toArray 120)
  have HX := Lib.hid X
  have HL := Lib.hid (fun (j : Nat) (v : Value) (hv : (markN n)[j]? = some v) => show World.cell? _ ⟨w.heap.size, 0 + j, none⟩ = some v from by rw [cell_of_blk hb]; simpa using hv)
  have HS := Lib.hid (markN_same n)
  have e1 : IntKind.u8.wrap (n : Int) = ((UInt8.ofNat n).toNat : Int) := wrap8 n
  have e2 : IntKind.u8.wrap ((n : Int).tdiv 256) = ((UInt8.ofNat (n / 256)).toNat : Int) := wrap8 (n / 256)
  have e3 : IntKind.u8.wrap ((n : Int).tdiv 65536) = ((UInt8.ofNat (n / 65536)).toNat : Int) := wrap8 (n / 65536)
  clear X hb
  go_enter Tryz.func146, Tryz.ntmps146
  go_wp2_with (first
    | (refine wpList_loadAgg rfl 120 _ rfl w.heap.size 0 rfl (markN n) Tryz.underlying120 rfl hash_size' HL.out ?_)
    | (refine wpList_eqlAgg rfl 120 _ _ _ rfl (markN n).toArray (markN n).toArray rfl rfl guard_hash (HS.out _) ?_))
  go_ret
  exact ⟨rfl, HX.out⟩

theorem hheld_size : (Tryz.prog.info? 164).map (·.size) = some 3 := by kernel_rfl
theorem body_markHash : hasBody Tryz.prog 131 = true := by kernel_rfl
theorem body_isHash : hasBody Tryz.prog 146 = true := by kernel_rfl
section
variable {P : Program} {l : List Oper} {w0 : World} {se : Nat → Addr} {F : List (Value ⊕ EV)} {a0 : Act} {i : Nat} {o : Oper}
theorem ty_indexSliceN {x ix : Operand} {t : TypeId} (g len cap k size : Nat) (e : TypeId) (hg : Gd l se F a0 o) (ho : o.op = .indexAddr t x ix) (hF : F[i]? = some (.inl (.pointer (some ⟨g, k * size, none⟩)))) (hx : Kn l se F a0 o x (.slice (some ⟨g, 0, none⟩) len cap)) (hi : Kn l se F a0 o ix (.int .i64 k)) (hk : k < len)
    (hu : P.underlying t = some (.slice e)) (hs : (P.info? e).map (·.size) = some size) : OpSpec P l w0 (Slots se F) a0 i o :=
  ty_indexSlice g 0 len cap k size e hg ho (by rw [hF, Nat.zero_add]) hx hi hk hu hs
end
theorem over_take (cs vs : List Value) (c N : Nat) (h : c + vs.length ≤ N) (h2 : c + vs.length ≤ cs.length) : (over cs c vs).take N = over (cs.take N) c vs := by
  have hc : (cs.take c).length = c := by rw [List.length_take]; omega
  unfold over
  rw [List.take_append, List.take_append, hc, List.take_of_length_le (l := cs.take c) (i := N) (by omega), List.take_of_length_le (l := vs) (by omega), List.take_take, Nat.min_eq_left (by omega), List.drop_take, Nat.sub_sub]
/-- A row's cells turned from c on, many at once. -/
theorem own_over {w : World} {B n size : Nat} {e : TypeId} {v : Value} {xs cs : List Value} (h : w.ownsRow B e size v n xs) {g : Nat} (hg : v.ownBlock = some g) (hb : w.heap[g]? = some (.cells cs.toArray e (0, 0))) (c : Nat) (vs : List Value) (hc : c + vs.length ≤ n * size) :
    (w.setRow g (over cs c vs).toArray).ownsRow B e size v n (over xs c vs) := by
  have hx := h.1
  refine ⟨by unfold over; simp only [List.length_append, List.length_take, List.length_drop]; omega, ?_⟩
  rcases h.2 with ⟨hv, _⟩ | ⟨g', cap, cur, hv, hb', hgg, hnc, hcm, hcs, ht⟩
  · rw [hv] at hg; cases hg
  · rw [hv] at hg
    obtain rfl : g' = g := by simpa [Value.ownBlock] using hg
    rw [hgg] at hb
    simp only [Option.some.injEq, Obj.cells.injEq, and_true] at hb
    subst hb
    have hle : n * size ≤ cap * size := Nat.mul_le_mul_right _ hnc
    simp only [List.size_toArray] at hcs
    refine .inr ⟨g', cap, _, hv, hb', blk_setRow hgg _, hnc, hcm, by simp only [over, List.size_toArray, List.length_append, List.length_take, List.length_drop]; omega, ?_⟩
    rw [← ht]
    simpa using over_take cs vs c (n * size) hc (by omega)
section
variable {P : Program} {ops : Array Oper} {Q : Exit → Act → World → Prop} {a : Act} {w : World} {i : Nat} {o : Oper} {K : Act → World → Prop}
theorem op_storeAggAt (hi : ops[i]? = some o) (hw : Region.wanted o (yielded ops a.tmps) = true) (ty : TypeId) (x y : Operand) (ho : o.op = .store ty x y)
    (g off : Nat) (hx : a.eval x = .pointer (some ⟨g, off, none⟩)) (vs : List Value) (hy : a.eval y = .agg vs.toArray) (hs : (P.info? ty).map (·.size) = some vs.length)
    (cs : List Value) (t : TypeId) (hg : w.heap[g]? = some (.cells cs.toArray t (0, 0))) (hfit : off + vs.length ≤ cs.length) (h1 : ∀ u ∈ vs, u.oneCell' = true)
    (h : K (a.put o.dst undef) (w.setRow g (over cs off vs).toArray)) : wpOp P ops Q i K a w := by
  unfold wpOp
  simp only [hi]
  rw [if_pos hw]
  left
  have hst := run_storeCells_at P g off t vs 0 cs.toArray w hg (by simpa using hfit) h1
  cases hq : P.info? ty with
  | none => simp [hq] at hs
  | some it =>
    have hss : it.size = vs.length := by simpa [hq] using hs
    simp only [Nat.add_zero] at hst
    unfold Oper.wp execOp
    simp [ho, hx, hy, Instr.storeAt, Instr.sureAddr, storeVar, sizeOf, typeInfo, hq, hss, Value.cells, hst]
    exact h
end
theorem over_len (cs : List Value) (off : Nat) (vs : List Value) (h : off + vs.length ≤ cs.length) : (over cs off vs).length = cs.length := by
  unfold over; simp only [List.length_append, List.length_take, List.length_drop]; omega
theorem own_room {w : World} {B n size : Nat} {e : TypeId} {v : Value} {xs : List Value} (h : w.ownsRow B e size v n xs) {g : Nat} (hg : v.ownBlock = some g) : ∃ (cap : Nat) (cl : Array Value), w.heap[g]? = some (.cells cl e (0, 0)) ∧ n * size ≤ cl.size := by
  rcases h.2 with ⟨hv, _⟩ | ⟨g', cap, cur, hv, hb', hgg, hnc, hcm, hcs, ht⟩
  · rw [hv] at hg; cases hg
  · rw [hv] at hg
    obtain rfl : g' = g := by simpa [Value.ownBlock] using hg
    exact ⟨cap, cur, hgg, by rw [hcs]; exact Nat.mul_le_mul_right _ hnc⟩
theorem rep_over (k : Nat) (m D : List Value) (hD : m.length ≤ D.length) : over (repL k m ++ D) (k * m.length) m = repL (k + 1) m ++ D.drop m.length := by
  have hl : (repL k m).length = k * m.length := repL_len k m
  unfold over
  rw [List.take_left' hl, ← List.drop_drop, List.drop_left' hl, repL_succ, List.append_assoc]
/-- The hashes that a Book holds. -/
structure HoldH (B : Nat) (W : World) (tv : Value) (L : List HeldD) (C : Nat → List Value) : Prop where
  row : W.ownsRow B 164 3 tv L.length (heldsL L)
  own : ∀ (i : Nat) h, L[i]? = some h → W.ownsRow B 120 32 h.v h.n (C i)
  sep : ∀ (i j : Nat) h h' g, L[i]? = some h → L[j]? = some h' → i ≠ j → h.v.ownBlock = some g → h'.v.ownBlock ≠ some g
section
variable {B : Nat} {W W' : World} {tv : Value} {L : List HeldD} {C : Nat → List Value}
theorem HoldH.upd {S : Nat → Prop} (h : HoldH B W tv L C) (u : Upd S W W') (hS : ∀ g, S g → ¬ listBs L g ∧ tv.ownBlock ≠ some g) : HoldH B W' tv L C :=
  ⟨ownsRow_upd h.row u (fun g hg hs => (hS g hs).2 hg), fun i hd hi => ownsRow_upd (h.own i hd hi) u (fun g hg hs => (hS g hs).1 ⟨i, hd, hi, hg⟩), h.sep⟩
theorem HoldH.ext (h : HoldH B W tv L C) (u : Ext W W') : HoldH B W' tv L C := h.upd u (fun _ hk => hk.elim)
theorem HoldH.apart (h : HoldH B W tv L C) {g : Nat} (hg : listBs L g) : tv.ownBlock ≠ some g := by
  obtain ⟨i, hd, hi, hg⟩ := hg
  exact own_apart (h.own i hd hi) h.row (by decide) hg
theorem HoldH.put (h : HoldH B W tv L C) {i g : Nat} {hd : HeldD} (hi : L[i]? = some hd) (hg : hd.v.ownBlock = some g) (cs : List Value) (hb : W.heap[g]? = some (.cells cs.toArray 120 (0, 0))) (k : Nat) (m : List Value) (hk : k + m.length ≤ hd.n * 32) : HoldH B (W.setRow g (over cs k m).toArray) tv L (fun j => if j = i then over (C i) k m else C j) := by
  have U : Upd (one g) W (W.setRow g (over cs k m).toArray) := (Upd.refl (one g) W).setRow (.inr rfl) _
  refine ⟨ownsRow_upd h.row U (fun g' hg' e => ?_), fun j hd' hj => ?_, h.sep⟩
  · obtain rfl : g' = g := e
    exact h.apart ⟨i, hd, hi, hg⟩ hg'
  · by_cases e : j = i
    · subst e
      rw [hi] at hj
      cases hj
      simp only [if_true]
      exact own_over (h.own _ _ hi) hg hb k m hk
    · simp only [if_neg e]
      refine ownsRow_upd (h.own j hd' hj) U (fun g' hg' e' => ?_)
      obtain rfl : g' = g := e'
      exact h.sep i j hd hd' g' hi hj (fun e2 => e e2.symm) hg hg'
end

set_option maxRecDepth 8000 in
set_option maxHeartbeats 4000000 in
theorem fillH_any {B b : Nat} {W : World} {tv : Value} {L : List HeldD} {C : Nat → List Value} (hb : W.cell? ⟨b, 5, none⟩ = some tv) (hbB : ¬ listBs L b) (H : HoldH B W tv L C)
    (hn : L.length ≤ 1000000) (hnn : ∀ (i : Nat) h, L[i]? = some h → h.n ≤ 1000000000 ∧ h.num ≤ 1000000000 ∧ h.long = .slice none 0 0) :
    Calls Tryz.prog 61 #[.pointer (some ⟨b, 0, none⟩)] W fun e W' => e = .returned (.tuple #[]) ∧ (∃ C', HoldH B W' tv L C' ∧ ∀ (i : Nat) h, L[i]? = some h → C' i = repL h.n (markN h.num)) ∧ Upd (listBs L) W W' := by
  obtain ⟨ta, tcap, rfl⟩ := own_slice H.row
  have HB := Lib.hid hb
  have HBB := Lib.hid hbB
  have HH0 := Lib.hid H
  have HNN := Lib.hid hnn
  clear hbB H hnn
  go_enter Tryz.func61, Tryz.ntmps61
  go_wp2_with fail
  go_loopw [2] (fun iv wr => ∃ (i : Nat) (C : Nat → List Value), iv = .int .i64 i ∧ i ≤ L.length ∧ HoldH B wr (.slice ta L.length tcap) L C ∧ (∀ (j : Nat) h, j < i → L[j]? = some h → C j = repL h.n (markN h.num)) ∧ Upd (listBs L) W wr) (fun iv _ => L.length - (RowKit.intOf iv).toNat)
  case atStart => exact ⟨0, C, rfl, Nat.zero_le _, HH0.out, fun j h hj => by omega, Upd.refl _ _⟩
  case round =>
    obtain ⟨i, C, rfl, hi1, hh, hcj, hu⟩ := hrel
    have HH := Lib.hid hh
    have HCJ := Lib.hid hcj
    have HU := Lib.hid hu
    have cb : wr.cell? ⟨b, 5, none⟩ = some (.slice ta L.length tcap) := (Upd.cell hu (lt_of_cell HB.out) HBB.out).trans HB.out
    by_cases hlt : i < L.length
    · have hi := List.getElem?_eq_getElem hlt
      generalize L[i] = hd at hi
      obtain ⟨tg, tcap2, tcl, htv, _, htb, htc⟩ := own_at hh.row (by omega)
      simp only [Value.slice.injEq, true_and] at htv
      obtain ⟨rfl, rfl⟩ := htv
      have HROW := Lib.hid (fun (j : Nat) (u : Value) (hu : (heldL hd)[j]? = some u) => show wr.cell? ⟨tg, i * 3 + j, none⟩ = some u by
        rw [cell_of_blk htb]
        refine htc _ _ ?_
        rw [heldsL_at L i j hd hi (List.getElem?_eq_some_iff.1 hu).1]; exact hu)
      obtain ⟨va, vcap, hv⟩ := own_slice (hh.own i hd hi)
      obtain ⟨v, long, n, num⟩ := hd
      simp only at hv
      subst hv
      obtain ⟨hn1, hn2, hn3⟩ := HNN.out i _ hi
      simp only at hn1 hn2 hn3
      subst hn3
      have HNM := Lib.hid hn2
      have HI := Lib.hid hi
      have hlti : (i : Int) < L.length := by omega
      have hpb := blk_alloc wr (.cells #[.slice va n vcap, .slice none 0 0, .int .i64 num] 164)
      have HX1 := Lib.hid ((Upd.refl none' wr).alloc (.cells #[.slice va n vcap, .slice none 0 0, .int .i64 num] 164))
      have HPB0 := Lib.hid hpb
      clear hh hcj hu hi htb htc hpb hn2
      go_wp2_with (refine wpList_loadAgg rfl 164 _ rfl tg (i * 3) (by go_simp; all_goals exact rfl) [.slice va n vcap, .slice none 0 0, .int .i64 num] Tryz.underlying164 rfl hheld_size HROW.out ?_)
      generalize hhb : wr.heap.size = hb at *
      go_loopw [4] (fun iv wr => ∃ (k : Nat) (C : Nat → List Value) (D : List Value), iv = .int .i64 k ∧ k ≤ n ∧ HoldH B wr (.slice (some ⟨tg, 0, none⟩) L.length tcap) L C ∧ C i = repL k (markN num) ++ D ∧ (∀ (j : Nat) h, j < i → L[j]? = some h → C j = repL h.n (markN h.num)) ∧ Upd (listBs L) W wr ∧ wr.heap[hb]? = some (.cells #[.slice va n vcap, .slice none 0 0, .int .i64 num] 164 (0, 0))) (fun iv _ => n - (RowKit.intOf iv).toNat)
      case atStart => exact ⟨0, C, C i, rfl, Nat.zero_le _, HH.out.ext HX1.out, rfl, HCJ.out, HU.out.thenExt HX1.out, HPB0.out⟩
      case round =>
        obtain ⟨k, C, D, rfl, hk1, hh, hci, hcj, hu, hpb⟩ := hrel
        have HH := Lib.hid hh
        have HCI := Lib.hid hci
        have HCJ := Lib.hid hcj
        have HU := Lib.hid hu
        have HPB := Lib.hid hpb
        have c0 := cell_of_blk hpb 0
        have hlen := (hh.own i _ HI.out).1
        rw [hci, List.length_append, repL_len, markN_len] at hlen
        simp only at hlen
        by_cases hkn : k < n
        · obtain ⟨g, vcap2, vcl, hvv, _, hgb, _⟩ := own_at (hh.own i _ HI.out) (by show 0 < n; omega)
          simp only [Value.slice.injEq, true_and] at hvv
          obtain ⟨rfl, rfl⟩ := hvv
          have HG : Hid ((HeldD.mk (.slice (some ⟨g, 0, none⟩) n vcap) (.slice none 0 0) n num).v.ownBlock = some g) := Lib.hid rfl
          have HC0 := Lib.hid (fun (w1 : World) (hX : Ext wr w1) => show w1.cell? ⟨hb, 0, none⟩ = some (.slice (some ⟨g, 0, none⟩) n vcap) from cell_of_blk (Ext.blk hX HPB.out) 0)
          have HC2 := Lib.hid (fun (w1 : World) (hX : Ext wr w1) => show w1.cell? ⟨hb, 2, none⟩ = some (.int .i64 num) from cell_of_blk (Ext.blk hX HPB.out) 2)
          have HKN := Lib.hid hkn
          have HGB := Lib.hid hgb
          have HFIT := Lib.hid (show k * 32 + 32 ≤ vcl.toList.length from by
            obtain ⟨cap, cl2, hx1, hx2⟩ := own_room (hh.own i _ HI.out) HG.out
            rw [hgb] at hx1
            simp only [Option.some.injEq, Obj.cells.injEq, and_true] at hx1
            subst hx1
            rw [Array.length_toList]
            have : k * 32 + 32 ≤ n * 32 := by omega
            exact Nat.le_trans this hx2)
          have HNEB := Lib.hid (show hb ≠ g from fun e => by
            rw [e, hgb] at hpb
            simp only [Option.some.injEq, Obj.cells.injEq] at hpb
            exact absurd hpb.2.1 (by decide))
          obtain ⟨C2, hC2⟩ : ∃ C2 : Nat → List Value, C2 = (fun j => if j = i then over (C i) (k * 32) (markN num) else C j) := ⟨_, rfl⟩
          have HCE := Lib.hid hC2
          have HCI2 := Lib.hid (show C2 i = repL (k + 1) (markN num) ++ D.drop 32 by
            rw [hC2]; show (if i = i then _ else _) = _; rw [if_pos rfl, hci]; exact rep_over k _ D (by rw [markN_len]; omega))
          have HCJ2 := Lib.hid (show ∀ (j : Nat) h, j < i → L[j]? = some h → C2 j = repL h.n (markN h.num) by
            intro j h hj hjh
            rw [hC2]; show (if j = i then _ else _) = _; rw [if_neg (show ¬ j = i by omega)]; exact hcj j h hj hjh)
          clear hC2
          have hki : (k : Int) < n := by omega
          clear hh hci hcj hu hpb hgb hlen
          go_wp2_with fail
          refine region_tail 7 (fun _ => ⟨0, 0, none⟩) [.inl (.pointer (some ⟨hb, 0, none⟩)), .inl (.slice (some ⟨g, 0, none⟩) n vcap), .inl (.int .i64 (k : Int)), .inl (.pointer (some ⟨hb, 2, none⟩)), .inl (.int .i64 num), .inl (.agg (markN num).toArray), .inl (.pointer (some ⟨g, k * 32, none⟩))] (by kernel_rfl) (by kernel_rfl) (by rfl) (by rfl) (by rfl) (by rfl) ?_ ?_
          rotate_left
          · intro v w' X hv
            have h33 := slot_val (hv 5 _ 33 rfl rfl) rfl
            have h34 := slot_val (hv 6 _ 34 rfl rfl) rfl
            have HH2 := Lib.hid (HH.out.ext X)
            have HU2 := Lib.hid (HU.out.thenExt X)
            have HGB2 := Lib.hid (Ext.blk X HGB.out)
            have HPX := Lib.hid (Ext.blk X HPB.out)
            have HP2 := Lib.hid (show HoldH B (w'.setRow g (over vcl.toList (k * 32) (markN num)).toArray) (.slice (some ⟨tg, 0, none⟩) L.length tcap) L C2 by rw [HCE.out]; exact HH2.out.put HI.out HG.out vcl.toList (by simpa using HGB2.out) (k * 32) _ (by rw [markN_len]; have := HKN.out; show _ ≤ n * 32; omega))
            have HUP := Lib.hid (HU2.out.setRow (g := g) (.inr ⟨i, _, HI.out, HG.out⟩) (over vcl.toList (k * 32) (markN num)).toArray)
            have HBK2 := Lib.hid (blk_setRow_ne HPX.out HNEB.out (over vcl.toList (k * 32) (markN num)).toArray)
            clear X hv
            refine any_norm (by simp only [List.take, putAll]; rewrite [h33, h34]; go_simp; all_goals exact rfl) ?_
            clear h33 h34
            refine any1 7 (by kernel_rfl) ?_
            refine op_storeAggAt rfl (by rfl) 120 _ _ rfl g (k * 32) rfl (markN num) rfl hash_size' vcl.toList 120 (by simpa using HGB2.out) (by rw [markN_len]; exact HFIT.out) (markN_one num) ?_
            refine any_norm (by go_simp; all_goals exact rfl) ?_
            refine wpAny_done (by kernel_rfl) ?_ _
            go_wp2_with fail
            exact ⟨⟨k + 1, _, D.drop 32, by simp, by omega, HP2.out, HCI2.out, HCJ2.out, HUP.out, HBK2.out⟩, by simp [RowKit.intOf]; omega⟩
          refine ⟨ty_fieldAddr _ _ (gd_none rfl) rfl rfl (kn_old 3 rfl rfl) (fun w1 => by kernel_rfl), ?_⟩
          refine ⟨ty_load1 ⟨hb, 0, none⟩ _ (gd_none rfl) rfl rfl (kn_new 0 rfl rfl rfl rfl) Tryz.underlying68 rfl (fun w1 hX => HC0.out w1 hX), ?_⟩
          refine ⟨ty_move (gd_none rfl) rfl rfl (kn_old 4 rfl rfl), ?_⟩
          refine ⟨ty_fieldAddr _ _ (gd_none rfl) rfl rfl (kn_old 3 rfl rfl) (fun w1 => by kernel_rfl), ?_⟩
          refine ⟨ty_load1 ⟨hb, 2, none⟩ _ (gd_none rfl) rfl rfl (kn_new 3 rfl rfl rfl rfl) Tryz.underlying3 rfl (fun w1 hX => HC2.out w1 hX), ?_⟩
          refine ⟨ty_call1 131 _ _ _ (gd_none rfl) rfl body_markHash (kn_new 4 rfl rfl rfl rfl) (fun w1 hX => known_call rfl (markHash_any num HNM.out w1)), ?_⟩
          refine ⟨ty_indexSliceN g _ _ k 32 _ (gd_none rfl) rfl rfl (kn_new 1 rfl rfl rfl rfl) (kn_new 2 rfl rfl rfl rfl) HKN.out Tryz.underlying68 hash_size', ?_⟩
          exact trivial
        · obtain rfl : k = n := by omega
          have hD : D = [] := List.length_eq_zero_iff.1 (by omega)
          subst hD
          have HCF := Lib.hid (show ∀ (j : Nat) h, j < i + 1 → L[j]? = some h → C j = repL h.n (markN h.num) by
            intro j h hj hjh
            by_cases e : j = i
            · subst e
              rw [HI.out] at hjh
              cases hjh
              rw [hci, List.append_nil]
            · exact hcj j h (by omega) hjh)
          clear hh hci hcj hu hpb hlen
          go_wp2_with fail
          exact ⟨⟨i + 1, C, by simp, by omega, HH.out, HCF.out, HU.out⟩, by simp [RowKit.intOf]; omega⟩
    · obtain rfl : i = L.length := by omega
      have HFIN := Lib.hid (show ∀ (j : Nat) h, L[j]? = some h → C j = repL h.n (markN h.num) from fun j h hj => hcj j h (List.getElem?_eq_some_iff.1 hj).1 hj)
      clear hh hcj hu
      go_wp2_with fail
      go_end0
      exact ⟨rfl, ⟨C, HH.out, HFIN.out⟩, HU.out⟩

/-- Behind the first i lists more has been put. -/
structure GrowH (B : Nat) (W : World) (tv : Value) (L L' : List HeldD) (i : Nat) : Prop where
  len : L'.length = L.length
  same : ∀ (j : Nat) h, L[j]? = some h → ∃ h', L'[j]? = some h' ∧ h'.v = h.v ∧ h'.n = h.n ∧ h'.num = h.num
  row : W.ownsRow B 164 3 tv L'.length (heldsL L')
  done : ∀ (j : Nat) h, j < i → L'[j]? = some h → W.ownsRow B 120 32 h.long (h.n + 70) (repL (h.n + 70) (markN h.num)) ∧ ReadV W h.v h.n (markN h.num)
  rest : ∀ (j : Nat) h, i ≤ j → L'[j]? = some h → h.long = .slice none 0 0 ∧ W.ownsRow B 120 32 h.v h.n (repL h.n (markN h.num))
  sepv : ∀ (j k : Nat) h h' g, L'[j]? = some h → L'[k]? = some h' → j ≠ k → h.v.ownBlock = some g → h'.v.ownBlock ≠ some g
  sepl : ∀ (j k : Nat) h h' g, j < i → L'[j]? = some h → L'[k]? = some h' → j ≠ k → h.long.ownBlock = some g → h'.v.ownBlock ≠ some g ∧ (k < i → h'.long.ownBlock ≠ some g)
  rsep : ∀ (j : Nat) h g, L'[j]? = some h → h.v.ownBlock = some g → tv.ownBlock ≠ some g ∧ g < W.heap.size
section
variable {B : Nat} {W W2 : World} {tv : Value} {L L' : List HeldD} {i : Nat}
theorem GrowH.ext (h : GrowH B W tv L L' i) (u : Ext W W2) : GrowH B W2 tv L L' i :=
  ⟨h.len, h.same, ownsRow_upd h.row u (fun _ _ k => k), fun j hd hj hjd => ⟨ownsRow_upd (h.done j hd hj hjd).1 u (fun _ _ k => k), (h.done j hd hj hjd).2.ext u⟩, fun j hd hj hjd => ⟨(h.rest j hd hj hjd).1, ownsRow_upd (h.rest j hd hj hjd).2 u (fun _ _ k => k)⟩, h.sepv, h.sepl, fun j hd g hj hg => ⟨(h.rsep j hd g hj hg).1, Nat.lt_of_lt_of_le (h.rsep j hd g hj hg).2 u.size⟩⟩
theorem GrowH.start {C : Nat → List Value} (h : HoldH B W tv L C) (hc : ∀ (i : Nat) h, L[i]? = some h → C i = repL h.n (markN h.num)) (hl : ∀ (i : Nat) h, L[i]? = some h → h.long = .slice none 0 0) : GrowH B W tv L L 0 :=
  ⟨rfl, fun j hd hj => ⟨hd, hj, rfl, rfl, rfl⟩, h.row, fun j hd hj => by omega, fun j hd _ hj => ⟨hl j hd hj, by rw [← hc j hd hj]; exact h.own j hd hj⟩, h.sep, fun j k hd hd' g hj => by omega, fun j hd g hj hg => ⟨h.apart ⟨j, hd, hj, hg⟩, by obtain ⟨cl, hb⟩ := own_ty (h.own j hd hj) hg; exact lt_of_blk hb⟩⟩
theorem GrowH.step (h : GrowH B W tv L L' i) {v lv : Value} {n num : Nat} (hi : L'[i]? = some ⟨v, .slice none 0 0, n, num⟩) (u : Upd (fun g => v.ownBlock = some g) W W2) (ho : W2.ownsRow B 120 32 lv (n + 70) (repL (n + 70) (markN num)))
    (hl : lv.ownBlock = v.ownBlock ∨ ∃ g, lv.ownBlock = some g ∧ W.heap.size ≤ g) (hr : ReadV W2 v n (markN num)) {tg : Nat} (ht : tv.ownBlock = some tg) : GrowH B (W2.setCell ⟨tg, i * 3 + 1, none⟩ lv) tv L (L'.set i ⟨v, lv, n, num⟩) (i + 1) := by
  have hil : i < L'.length := (List.getElem?_eq_some_iff.1 hi).1
  have U3 : Upd (one tg) W2 (W2.setCell ⟨tg, i * 3 + 1, none⟩ lv) := (Upd.refl (one tg) W2).setCell (p := ⟨tg, i * 3 + 1, none⟩) (.inr rfl) lv
  have vrow := (h.rest i _ (Nat.le_refl _) hi).2
  have hvt : ∀ g, v.ownBlock = some g → tg ≠ g := fun g hg e => (h.rsep i _ g hi hg).1 (e ▸ ht)
  have row2 : W2.ownsRow B 164 3 tv L'.length (heldsL L') := ownsRow_upd h.row u (fun g hg hs => (h.rsep i _ g hi hs).1 hg)
  have get : ∀ (j : Nat) hd, (L'.set i ⟨v, lv, n, num⟩)[j]? = some hd → (j = i ∧ hd = ⟨v, lv, n, num⟩) ∨ (j ≠ i ∧ L'[j]? = some hd) := fun j hd hj => by
    rw [List.getElem?_set] at hj
    split at hj
    · rename_i e
      exact .inl ⟨e.symm, (Option.some.inj hj).symm⟩
    · rename_i e
      exact .inr ⟨fun e2 => e e2.symm, hj⟩
  have lt2 : ∀ {m : Nat} {x : Value} {xs : List Value} {Bx : Nat} {g : Nat}, W.ownsRow Bx 120 32 x m xs → x.ownBlock = some g → g < W.heap.size := fun hx hg => by
    obtain ⟨cl, hb⟩ := own_ty hx hg; exact lt_of_blk hb
  refine ⟨by rw [List.length_set]; exact h.len, fun j hd hj => ?_, ?_, fun j hd hj hjd => ?_, fun j hd hj hjd => ?_, fun j k hd hd' g hj hk hne hg => ?_, fun j k hd hd' g hji hj hk hne hg => ?_, fun j hd g hj hg => ?_⟩
  · obtain ⟨h', e1, e2, e3, e4⟩ := h.same j hd hj
    by_cases e : j = i
    · subst e
      rw [hi] at e1
      cases e1
      exact ⟨⟨v, lv, n, num⟩, by rw [List.getElem?_set_self hil], e2, e3, e4⟩
    · exact ⟨h', by rw [List.getElem?_set_ne (fun e5 => e e5.symm)]; exact e1, e2, e3, e4⟩
  · have := own_set row2 ht (i * 3 + 1) lv
    rw [heldsL_long L' i _ lv hi] at this
    rw [List.length_set]
    exact this
  · rcases get j hd hjd with ⟨e, rfl⟩ | ⟨e, hjd⟩
    · refine ⟨ownsRow_upd ho U3 (fun g hg e2 => ?_), hr.upd U3 (fun g hg e2 => hvt g hg e2.symm)⟩
      obtain rfl : g = tg := e2
      exact own_apart ho row2 (by decide) hg ht
    · obtain ⟨d1, d2⟩ := h.done j hd (by omega) hjd
      have d1' := ownsRow_upd d1 u (fun g hg hs => (h.sepl j i hd _ g (by omega) hjd hi e hg).1 hs)
      refine ⟨ownsRow_upd d1' U3 (fun g hg e2 => ?_), (d2.upd u (fun g hg hs => h.sepv j i hd _ g hjd hi e hg hs)).upd U3 (fun g hg e2 => ?_)⟩
      · obtain rfl : g = tg := e2
        exact own_apart d1' row2 (by decide) hg ht
      · obtain rfl : g = tg := e2
        exact (h.rsep j hd g hjd hg).1 ht
  · rcases get j hd hjd with ⟨e, rfl⟩ | ⟨e, hjd⟩
    · omega
    · obtain ⟨d1, d2⟩ := h.rest j hd (by omega) hjd
      refine ⟨d1, ownsRow_upd (ownsRow_upd d2 u (fun g hg hs => h.sepv j i hd _ g hjd hi e hg hs)) U3 (fun g hg e2 => ?_)⟩
      obtain rfl : g = tg := e2
      exact (h.rsep j hd g hjd hg).1 ht
  · rcases get j hd hj with ⟨e, rfl⟩ | ⟨e, hj⟩ <;> rcases get k hd' hk with ⟨e', rfl⟩ | ⟨e', hk⟩
    · omega
    · exact h.sepv i k _ hd' g hi hk (fun e3 => e' e3.symm) hg
    · exact h.sepv j i hd ⟨v, .slice none 0 0, n, num⟩ g hj hi e hg
    · exact h.sepv j k hd hd' g hj hk hne hg
  · rcases get j hd hj with ⟨e, rfl⟩ | ⟨e, hj⟩ <;> rcases get k hd' hk with ⟨e', rfl⟩ | ⟨e', hk⟩
    · omega
    · rcases hl with hl | ⟨g', hg', hge⟩
      · have hvg : v.ownBlock = some g := by rw [← hl]; exact hg
        exact ⟨h.sepv i k _ hd' g hi hk (fun e3 => e' e3.symm) hvg, fun hk2 hg2 => (h.sepl k i hd' _ g (by omega) hk hi e' hg2).1 hvg⟩
      · have hgg : g' = g := Option.some.inj (hg'.symm.trans hg)
        subst hgg
        refine ⟨fun hg2 => ?_, fun hk2 hg2 => ?_⟩
        · have := (h.rsep k hd' g' hk hg2).2; omega
        · have := lt2 (h.done k hd' (by omega) hk).1 hg2; omega
    · have hji2 : j < i := by omega
      refine ⟨(h.sepl j i hd _ g hji2 hj hi e hg).1, fun _ hg2 => ?_⟩
      rcases hl with hl | ⟨g', hg', hge⟩
      · exact (h.sepl j i hd _ g hji2 hj hi e hg).1 (by show v.ownBlock = some g; rw [← hl]; exact hg2)
      · have hgg : g' = g := Option.some.inj (hg'.symm.trans hg2)
        subst hgg
        have := lt2 (h.done j hd hji2 hj).1 hg; omega
    · exact ⟨(h.sepl j k hd hd' g (by omega) hj hk hne hg).1, fun hk2 => (h.sepl j k hd hd' g (by omega) hj hk hne hg).2 (by omega)⟩
  · have hsz : W.heap.size ≤ (W2.setCell ⟨tg, i * 3 + 1, none⟩ lv).heap.size := Nat.le_trans u.size U3.size
    rcases get j hd hj with ⟨e, rfl⟩ | ⟨e, hj⟩
    · exact ⟨(h.rsep i _ g hi hg).1, Nat.lt_of_lt_of_le (h.rsep i _ g hi hg).2 hsz⟩
    · exact ⟨(h.rsep j hd g hj hg).1, Nat.lt_of_lt_of_le (h.rsep j hd g hj hg).2 hsz⟩
end
/-- What the inner loop keeps: a longer list out of v. -/
structure LongH (B : Nat) (W0 W : World) (v lv : Value) (n num k : Nat) : Prop where
  own : W.ownsRow B 120 32 lv (n + k) (repL (n + k) (markN num))
  blk : lv.ownBlock = v.ownBlock ∨ ∃ g, lv.ownBlock = some g ∧ W0.heap.size ≤ g
  upd : Upd (fun g => v.ownBlock = some g) W0 W
  read : ReadV W v n (markN num)
  vlt : ∀ g, v.ownBlock = some g → g < W0.heap.size
theorem LongH.ext {B : Nat} {W0 W W2 : World} {v lv : Value} {n num k : Nat} (h : LongH B W0 W v lv n num k) (u : Ext W W2) : LongH B W0 W2 v lv n num k :=
  ⟨ownsRow_upd h.own u (fun _ _ e => e), h.blk, h.upd.thenExt u, h.read.ext u, h.vlt⟩
theorem LongH.app {B : Nat} {W0 W W2 : World} {v lv lv2 : Value} {n num k : Nat} (h : LongH B W0 W v lv n num k) (ho : W2.ownsRow B 120 32 lv2 (n + k + 1) (repL (n + k) (markN num) ++ markN num)) (hg : W.grownBy W2 lv.ownBlock)
    (hb : lv2.ownBlock = lv.ownBlock ∨ (lv2.ownBlock = some W.heap.size ∧ Ext W W2)) : LongH B W0 W2 v lv2 n num (k + 1) := by
  have ho2 : W2.ownsRow B 120 32 lv2 (n + (k + 1)) (repL (n + (k + 1)) (markN num)) := by
    rw [← Nat.add_assoc, repL_succ]; exact ho
  refine ⟨ho2, ?_, ?_, ?_, h.vlt⟩
  · rcases hb with e | ⟨e, _⟩
    · rw [e]; exact h.blk
    · exact .inr ⟨_, e, h.upd.size⟩
  · refine h.upd.grown hg (fun g hg2 => ?_)
    rcases h.blk with e | ⟨g', e, hge⟩
    · exact .inr (by rw [← e]; exact hg2)
    · rw [e] at hg2; cases hg2; exact .inl hge
  · rcases hb with e | ⟨_, u⟩
    · rcases h.blk with e2 | ⟨g', e2, hge⟩
      · obtain ⟨a, capv, rfl, hk⟩ := h.read
        by_cases hn : n = 0
        · subst hn; exact ⟨a, capv, rfl, fun k hk => by omega⟩
        · obtain ⟨g, ha, _⟩ := hk 0 (by omega)
          subst ha
          have e3 : lv2.ownBlock = some g := by rw [e, e2]; rfl
          obtain ⟨cap2, hv2⟩ := own_addr ho2 e3
          subst hv2
          exact own_read ho2
      · refine h.read.upd (S := fun g => lv.ownBlock = some g) ((Upd.refl _ W).grown hg (fun g hg2 => .inr hg2)) (fun g hg2 hs => ?_)
        have := h.vlt g hg2
        rw [e2] at hs; cases hs; omega
    · exact h.read.ext u

set_option maxRecDepth 8000 in
set_option maxHeartbeats 4000000 in
theorem growH_any {B b : Nat} {W : World} {tv : Value} {L : List HeldD} (hb : W.cell? ⟨b, 5, none⟩ = some tv) (hbB : ¬ listBs L b) (hbt : tv.ownBlock ≠ some b) (H : GrowH B W tv L L 0)
    (hB : B ≤ W.heap.size) (hn : L.length ≤ 1000000) (hnn : ∀ (i : Nat) h, L[i]? = some h → h.n ≤ 1000000000 ∧ h.num ≤ 1000000000) :
    Calls Tryz.prog 77 #[.pointer (some ⟨b, 0, none⟩)] W fun e W' => e = .returned (.tuple #[]) ∧ (∃ L', GrowH B W' tv L L' L.length) ∧ Upd (fun g => listBs L g ∨ tv.ownBlock = some g) W W' := by
  obtain ⟨j0, hj0, hjz0, hjz1, hjz2⟩ := info_parts info_hash
  obtain ⟨ta, tcap, rfl⟩ := own_slice H.row
  have HB := Lib.hid hb
  have HBB := Lib.hid (show ¬ (listBs L b ∨ (Value.slice ta L.length tcap).ownBlock = some b) from fun h => h.elim hbB hbt)
  have HH0 := Lib.hid H
  have HNN := Lib.hid hnn
  have HB00 := Lib.hid hB
  clear hbB hbt H hnn hB
  go_enter Tryz.func77, Tryz.ntmps77
  go_wp2_with fail
  go_loopw [2] (fun iv wr => ∃ (i : Nat) (L' : List HeldD), iv = .int .i64 i ∧ i ≤ L.length ∧ GrowH B wr (.slice ta L.length tcap) L L' i ∧ Upd (fun g => listBs L g ∨ (Value.slice ta L.length tcap).ownBlock = some g) W wr) (fun iv _ => L.length - (RowKit.intOf iv).toNat)
  case atStart => exact ⟨0, L, rfl, Nat.zero_le _, HH0.out, Upd.refl _ _⟩
  case round =>
    obtain ⟨i, L', rfl, hi1, hh, hu⟩ := hrel
    have HH := Lib.hid hh
    have HU := Lib.hid hu
    have cb : wr.cell? ⟨b, 5, none⟩ = some (.slice ta L.length tcap) := (Upd.cell hu (lt_of_cell HB.out) HBB.out).trans HB.out
    by_cases hlt : i < L.length
    · have hil' : i < L'.length := by rw [hh.len]; exact hlt
      have hi := List.getElem?_eq_getElem hil'
      generalize L'[i] = hd at hi
      obtain ⟨tg, tcap2, tcl, htv, _, htb, htc⟩ := own_at hh.row (by omega)
      rw [hh.len] at htv
      simp only [Value.slice.injEq, true_and] at htv
      obtain ⟨rfl, rfl⟩ := htv
      have HROW := Lib.hid (fun (j : Nat) (u : Value) (hu : (heldL hd)[j]? = some u) => show wr.cell? ⟨tg, i * 3 + j, none⟩ = some u by
        rw [cell_of_blk htb]
        refine htc _ _ ?_
        rw [heldsL_at L' i j hd hi (List.getElem?_eq_some_iff.1 hu).1]; exact hu)
      obtain ⟨hr1, hr2⟩ := hh.rest i hd (Nat.le_refl _) hi
      obtain ⟨va, vcap, hv⟩ := own_slice hr2
      obtain ⟨h0, hL0⟩ : ∃ h0, L[i]? = some h0 := ⟨_, List.getElem?_eq_getElem hlt⟩
      obtain ⟨h', e1, e2, e3, e4⟩ := hh.same i h0 hL0
      rw [hi] at e1
      cases e1
      obtain ⟨hn1, hn2⟩ := HNN.out i _ hL0
      rw [← e3] at hn1
      rw [← e4] at hn2
      have HLB := Lib.hid (show ∀ g, hd.v.ownBlock = some g → listBs L g from fun g hg => ⟨i, h0, hL0, by rw [← e2]; exact hg⟩)
      obtain ⟨v, long, n, num⟩ := hd
      simp only at hv hr1 hr2 hn1 hn2
      subst hv
      subst hr1
      have HNM := Lib.hid hn2
      have HI := Lib.hid hi
      have hlti : (i : Int) < L.length := by omega
      have hpb := blk_alloc wr (.cells #[.slice va n vcap, .slice none 0 0, .int .i64 num] 164)
      have HX1 := Lib.hid ((Upd.refl none' wr).alloc (.cells #[.slice va n vcap, .slice none 0 0, .int .i64 num] 164))
      have HPB0 := Lib.hid hpb
      have HRD := Lib.hid (show ReadV wr (.slice va n vcap) n (markN num) by
        refine ⟨va, vcap, rfl, fun k hk => ?_⟩
        obtain ⟨g, cap', cl, hv2, _, hg2, hc2⟩ := own_at hr2 (by show 0 < n; omega)
        simp only [Value.slice.injEq] at hv2
        refine ⟨g, hv2.1, fun j u hu => ?_⟩
        rw [cell_of_blk hg2]
        refine hc2 _ u ?_
        unfold repL
        rw [flat_rep _ _ _ _ hk (List.getElem?_eq_some_iff.1 hu).1]
        exact hu)
      have HVL := Lib.hid (show ∀ g, (Value.slice va n vcap).ownBlock = some g → g < wr.heap.size ∧ tg ≠ g from fun g hg => ⟨(hh.rsep i _ g hi hg).2, fun e => (hh.rsep i _ g hi hg).1 (by rw [← e]; rfl)⟩)
      have HLG := Lib.hid (LongH.mk (B := B) (W0 := wr.alloc (.cells #[.slice va n vcap, .slice none 0 0, .int .i64 num] 164)) (W := wr.alloc (.cells #[.slice va n vcap, .slice none 0 0, .int .i64 num] 164)) (v := .slice va n vcap) (lv := .slice va n vcap) (n := n) (num := num) (k := 0) (ownsRow_upd hr2 HX1.out (fun _ _ e => e)) (.inl rfl) (Upd.refl _ _) (HRD.out.ext HX1.out) (fun g hg => by have := (HVL.out g hg).1; rw [World.size_alloc]; omega))
      have HBW := Lib.hid (Nat.le_trans HB00.out hu.size)
      have HTGI := Lib.hid htb
      have HTGC := Lib.hid (show i * 3 + 1 < tcl.size from (List.getElem?_eq_some_iff.1 (by
        have := htc (i * 3 + 1) (.slice none 0 0) (by rw [heldsL_at L' i 1 _ hi (by omega)]; rfl)
        rw [← Array.getElem?_toList] at this; exact this)).1)
      clear hh hu hi htb htc hpb hn2 hr2 hil' e2 e3 e4 hL0
      go_wp2_with (refine wpList_loadAgg rfl 164 _ rfl tg (i * 3) (by go_simp; all_goals exact rfl) [.slice va n vcap, .slice none 0 0, .int .i64 num] Tryz.underlying164 rfl hheld_size HROW.out ?_)
      have HG1 := Lib.hid (HH.out.ext HX1.out)
      have HU1 := Lib.hid (HU.out.thenExt HX1.out)
      have HTG1 := Lib.hid (Ext.blk HX1.out HTGI.out)
      have HBW1 := Lib.hid (Nat.le_trans HBW.out HX1.out.size)
      clear HBW HTGI HRD HX1 HH HU cb HROW
      generalize hhb : wr.heap.size = hb at *
      generalize hW1 : wr.alloc (.cells #[.slice va n vcap, .slice none 0 0, .int .i64 num] 164) = W1 at *
      go_loopw [4, 5] (fun lv kv wr2 => ∃ (k : Nat), kv = .int .i64 k ∧ k ≤ 70 ∧ LongH B W1 wr2 (.slice va n vcap) lv n num k) (fun _ kv _ => 70 - (RowKit.intOf kv).toNat)
      case atStart => exact ⟨0, rfl, Nat.zero_le _, HLG.out⟩
      case round =>
        obtain ⟨k, rfl, hk1, hl⟩ := hrel
        have HL := Lib.hid hl
        have hpb2 := hl.upd.blk HPB0.out (fun hs => by have := (HVL.out _ hs).1; omega)
        have c2 := cell_of_blk hpb2 2
        simp only [List.size_toArray, List.getElem?_toArray, List.getElem?_cons_zero, List.getElem?_cons_succ] at c2
        by_cases hk : k < 70
        · have CM := fun w1 => markHash_any num HNM.out w1
          have HM := Lib.hid (show n + k + 1 ≤ maxLen ∧ (n + k + 1) * 32 ≤ 140737488355328 by unfold maxLen; omega)
          have HB2 := Lib.hid (Nat.le_trans HBW1.out hl.upd.size)
          have HMO : Hid (∀ u ∈ markN num, u.oneCell' = true) := Lib.hid (markN_one num)
          have hki : (k : Int) < 70 := by omega
          clear hl hpb2
          go_wp2_with fail
          refine (CM _).mono ?_
          rintro e w5 ⟨rfl, u⟩
          have HX6 := Lib.hid ((Upd.refl none' w5).alloc (.cells (markN num).toArray 120))
          have HL6 := Lib.hid ((HL.out.ext u).ext HX6.out)
          have HB6 := Lib.hid (Nat.le_trans (Nat.le_trans HB2.out u.size) HX6.out.size)
          have hb6 := blk_alloc w5 (.cells (markN num).toArray 120)
          have HN6 := Lib.hid (fun (j : Nat) (u : Value) (hu : (markN num)[j]? = some u) => show World.cell? _ ((⟨w5.heap.size, 0, none⟩ : Addr).add j) = some u from by rw [show (⟨w5.heap.size, 0, none⟩ : Addr).add j = ⟨w5.heap.size, j, none⟩ from by unfold Addr.add; split <;> simp_all, cell_of_blk hb6]; simpa using hu)
          clear u CM hb6
          go_wp2_with (first
            | (refine wpList_buildOne rfl 68 120 _ rfl (markN num) rfl Tryz.underlying68 hash_size' zero_hash (by rw [markN_len]; decide) (by rw [markN_len]; decide) ?_)
            | (at_builtin; go_must (refine wpList_app2 rfl _ _ 68 rfl B 120 j0 _ 32 32 Tryz.underlying68 hj0 hjz0 hjz1 hjz2 rfl (by decide) u4 _ _ rfl HL6.out.own ⟨w5.heap.size, 0, none⟩ 1 1 (markN num) rfl rfl HN6.out HMO.out HM.out.1 HM.out.2 HB6.out ?_)))
          intro v' w7 ho hg hbl
          have HL7 := Lib.hid (HL6.out.app ho hg (by rw [World.size_alloc]; exact hbl))
          clear ho hg hbl
          go_wp2_with fail
          exact ⟨⟨k + 1, by simp, by omega, HL7.out⟩, by simp [RowKit.intOf]; omega⟩
        · obtain rfl : k = 70 := by omega
          obtain ⟨la, lcap, hlv⟩ := own_slice hl.own
          subst hlv
          have hu2 := HU1.out.then hl.upd (fun g _ hs => .inl (HLB.out g hs))
          have cb : wr.cell? ⟨b, 5, none⟩ = some (.slice (some ⟨tg, 0, none⟩) L.length tcap) := (Upd.cell hu2 (lt_of_cell HB.out) HBB.out).trans HB.out
          have htg2 := hl.upd.blk HTG1.out (fun hs => (HVL.out _ hs).2 rfl)
          have f1 := free_of_blk htg2 (i * 3 + 1)
          have c1 : ∃ u, wr.cell? ⟨tg, i * 3 + 1, none⟩ = some u := by rw [cell_of_blk htg2]; exact ⟨_, Array.getElem?_eq_getElem HTGC.out⟩
          obtain ⟨u1, c1⟩ := c1
          have HG2 := Lib.hid (HG1.out.step HI.out hl.upd hl.own hl.blk hl.read (tg := tg) rfl)
          have HU2 := Lib.hid (hu2.setCell (p := ⟨tg, i * 3 + 1, none⟩) (.inr (.inr rfl)) (.slice la (n + 70) lcap))
          clear hl hpb2 hu2 htg2 c2
          go_wp2_with fail
          exact ⟨⟨i + 1, _, by simp, by omega, HG2.out, HU2.out⟩, by simp [RowKit.intOf]; omega⟩
    · obtain rfl : i = L.length := by omega
      clear hh hu
      go_wp2_with fail
      go_end0
      exact ⟨rfl, ⟨L', HH.out⟩, HU.out⟩

theorem ReadV.atN {W : World} {a : Option Addr} {n cap : Nat} {m : List Value} (h : ReadV W (.slice a n cap) n m) (k : Nat) (hk : k < n) : ∃ g, a = some ⟨g, 0, none⟩ ∧ ∀ (j : Nat) (u : Value), m[j]? = some u → W.cell? ⟨g, k * m.length + j, none⟩ = some u := by
  obtain ⟨a', cap', hv, hr⟩ := h
  simp only [Value.slice.injEq] at hv
  obtain ⟨g, hg, hj⟩ := hr k hk
  exact ⟨g, hv.1.trans hg, hj⟩

set_option maxRecDepth 8000 in
set_option maxHeartbeats 8000000 in
theorem lookH_any {B b : Nat} {W : World} {tv : Value} {L L' : List HeldD} (hb : W.cell? ⟨b, 5, none⟩ = some tv) (H : GrowH B W tv L L' L.length) (hn : L.length ≤ 1000000) (hnn : ∀ (i : Nat) h, L[i]? = some h → h.n ≤ 1000000000 ∧ h.num ≤ 1000000000) :
    Calls Tryz.prog 93 #[.pointer (some ⟨b, 0, none⟩)] W fun e W' => e = .returned (.bool true) ∧ Ext W W' := by
  obtain ⟨ta, tcap, rfl⟩ := own_slice H.row
  rw [H.len] at hb
  have HLEN := Lib.hid H.len
  have HB := Lib.hid hb
  have HH := Lib.hid H
  have HNN := Lib.hid hnn
  clear H hnn
  go_enter Tryz.func93, Tryz.ntmps93
  go_wp2_with fail
  go_loopw [3] (fun iv wr => ∃ (i : Nat), iv = .int .i64 i ∧ i ≤ L.length ∧ Ext W wr) (fun iv _ => L.length - (RowKit.intOf iv).toNat)
  case atStart => exact ⟨0, rfl, Nat.zero_le _, Upd.refl _ _⟩
  case round =>
    obtain ⟨i, rfl, hi1, hu⟩ := hrel
    have HU := Lib.hid hu
    have cb : wr.cell? ⟨b, 5, none⟩ = some (.slice ta L.length tcap) := Ext.cellv hu HB.out
    by_cases hlt : i < L.length
    · have hil' : i < L'.length := by rw [HLEN.out]; exact hlt
      have hi := List.getElem?_eq_getElem hil'
      generalize L'[i] = hd at hi
      have hh := HH.out.ext hu
      obtain ⟨tg, tcap2, tcl, htv, _, htb, htc⟩ := own_at hh.row (by omega)
      simp only [Value.slice.injEq, true_and] at htv
      obtain ⟨rfl, _, rfl⟩ := htv
      have HROW := Lib.hid (fun (j : Nat) (u : Value) (hu : (heldL hd)[j]? = some u) => show wr.cell? ⟨tg, i * 3 + j, none⟩ = some u by
        rw [cell_of_blk htb]
        refine htc _ _ ?_
        rw [heldsL_at L' i j hd hi (List.getElem?_eq_some_iff.1 hu).1]; exact hu)
      obtain ⟨hd1, hd2⟩ := hh.done i hd hlt hi
      obtain ⟨h0, hL0⟩ : ∃ h0, L[i]? = some h0 := ⟨_, List.getElem?_eq_getElem hlt⟩
      obtain ⟨h', e1, e2, e3, e4⟩ := hh.same i h0 hL0
      rw [hi] at e1
      cases e1
      obtain ⟨hn1, hn2⟩ := HNN.out i _ hL0
      rw [← e3] at hn1
      rw [← e4] at hn2
      obtain ⟨v, long, n, num⟩ := hd
      obtain ⟨va, vcap, hv, hvr⟩ := hd2
      simp only at hv hd1 hn1 hn2
      subst hv
      have HVR := Lib.hid (show ReadV wr (.slice va n vcap) n (markN num) from ⟨va, vcap, rfl, hvr⟩)
      obtain ⟨lg, lcap, lcl, hlv, _, hlb, hlc⟩ := own_at hd1 (by omega)
      subst hlv
      have HLR := Lib.hid (show ReadV wr (.slice (some ⟨lg, 0, none⟩) (n + 70) lcap) (n + 70) (markN num) from own_read (k := 0) hd1)
      have HNM := Lib.hid hn2
      have hlti : (i : Int) < L.length := by omega
      have hpb := blk_alloc wr (.cells #[.slice va n vcap, .slice (some ⟨lg, 0, none⟩) (n + 70) lcap, .int .i64 num] 164)
      have HX1 := Lib.hid ((Upd.refl none' wr).alloc (.cells #[.slice va n vcap, .slice (some ⟨lg, 0, none⟩) (n + 70) lcap, .int .i64 num] 164))
      have HPB0 := Lib.hid hpb
      have HU1 := Lib.hid (hu.trans HX1.out)
      clear hh hu hi htb htc hpb hn2 hd1 hvr hlb hlc hL0 e2 e3 e4 hil'
      go_wp2_with (refine wpList_loadAgg rfl 164 _ rfl tg (i * 3) (by go_simp; all_goals exact rfl) [.slice va n vcap, .slice (some ⟨lg, 0, none⟩) (n + 70) lcap, .int .i64 num] Tryz.underlying164 rfl hheld_size HROW.out ?_)
      have HVR1 := Lib.hid (HVR.out.ext HX1.out)
      have HLR1 := Lib.hid (HLR.out.ext HX1.out)
      clear HX1 HVR HLR HROW cb
      generalize hhb : wr.heap.size = hb at *
      generalize hW1 : wr.alloc (.cells #[.slice va n vcap, .slice (some ⟨lg, 0, none⟩) (n + 70) lcap, .int .i64 num] 164) = W1 at *
      go_loopw [5] (fun kv wr => ∃ (k : Nat), kv = .int .i64 k ∧ k ≤ n + 70 ∧ Ext W1 wr ∧ wr.heap[hb]? = some (.cells #[.slice va n vcap, .slice (some ⟨lg, 0, none⟩) (n + 70) lcap, .int .i64 num] 164 (0, 0))) (fun kv _ => n + 70 - (RowKit.intOf kv).toNat)
      case atStart => exact ⟨0, rfl, Nat.zero_le _, Upd.refl _ _, HPB0.out⟩
      case round =>
        obtain ⟨k, rfl, hk1, hu, hpb⟩ := hrel
        have HPB := Lib.hid hpb
        have HUW := Lib.hid (HU1.out.trans hu)
        have c1 := cell_of_blk hpb 1
        simp only [List.size_toArray, List.getElem?_toArray, List.getElem?_cons_zero, List.getElem?_cons_succ] at c1
        by_cases hkn : k < n + 70
        · have HKN := Lib.hid hkn
          have HC0 := Lib.hid (fun (w1 : World) (hX : Ext wr w1) => show w1.cell? ⟨hb, 0, none⟩ = some (.slice va n vcap) from cell_of_blk (Ext.blk hX HPB.out) 0)
          have HC1 := Lib.hid (fun (w1 : World) (hX : Ext wr w1) => show w1.cell? ⟨hb, 1, none⟩ = some (.slice (some ⟨lg, 0, none⟩) (n + 70) lcap) from cell_of_blk (Ext.blk hX HPB.out) 1)
          have HC2 := Lib.hid (fun (w1 : World) (hX : Ext wr w1) => show w1.cell? ⟨hb, 2, none⟩ = some (.int .i64 num) from cell_of_blk (Ext.blk hX HPB.out) 2)
          have HLC := Lib.hid (fun (w1 : World) (hX : Ext wr w1) (j : Nat) (u : Value) (hj : (markN num)[j]? = some u) => show w1.cell? ⟨lg, k * 32 + j, none⟩ = some u by
            obtain ⟨g, hg, hc⟩ := ((HLR1.out.ext hu).ext hX).atN k HKN.out
            simp only [Option.some.injEq, Addr.mk.injEq, and_true] at hg
            rw [hg]; exact hc j u hj)
          have HU := Lib.hid hu
          have hki : (k : Int) < (n : Int) + 70 := by omega
          clear hpb
          by_cases hkv : k < n
          · obtain ⟨vg, hvg, hvc⟩ := (HVR1.out.ext hu).atN k hkv
            subst hvg
            have HVC := Lib.hid (fun (w1 : World) (hX : Ext wr w1) (j : Nat) (u : Value) (hj : (markN num)[j]? = some u) => show w1.cell? ⟨vg, k * 32 + j, none⟩ = some u from Ext.cellv hX (hvc j u hj))
            have HKV := Lib.hid hkv
            have HLT2 := Lib.hid (show decide ((k : Int) < (n : Int)) = true by simp; omega)
            clear hu hvc hkv
            go_wp2_with fail
            refine region_slots (fun _ => ⟨0, 0, none⟩) [.inl (.pointer (some ⟨hb, 1, none⟩)), .inl (.slice (some ⟨lg, 0, none⟩) (n + 70) lcap), .inl (.int .i64 (k : Int)), .inl (.pointer (some ⟨lg, k * 32, none⟩)), .inl (.agg (markN num).toArray), .inl (.pointer (some ⟨hb, 2, none⟩)), .inl (.int .i64 num), .inl (.bool true), .inl (.bool false), .inl (.bool false), .inl (.int .i64 (k : Int)), .inl (.pointer (some ⟨hb, 0, none⟩)), .inl (.slice (some ⟨vg, 0, none⟩) n vcap), .inl (.int .i64 n), .inl (.bool true), .inl (.bool true), .inl (.pointer (some ⟨hb, 0, none⟩)), .inl (.slice (some ⟨vg, 0, none⟩) n vcap), .inl (.int .i64 (k : Int)), .inl (.pointer (some ⟨vg, k * 32, none⟩)), .inl (.agg (markN num).toArray), .inl (.pointer (some ⟨hb, 2, none⟩)), .inl (.int .i64 num), .inl (.bool true), .inl (.bool false), .inl (.bool false), .inl (.bool false)] (by kernel_rfl) (by rfl) (by rfl) ?_ ?_
            rotate_left
            · intro v' w' X hv
              have h63 := slot_val (hv 26 _ 63 rfl rfl) rfl
              have HX2 := Lib.hid X
              have HPX := Lib.hid (Ext.blk X HPB.out)
              clear X hv
              refine q_norm (by simp only [putAll]; rewrite [h63]; go_simp; all_goals exact rfl) ?_
              clear h63
              go_wp2_with fail
              exact ⟨⟨k + 1, by simp, by omega, HU.out.trans HX2.out, HPX.out⟩, by simp [RowKit.intOf]; omega⟩
            refine ⟨ty_fieldAddr _ _ (gd_none rfl) rfl rfl (kn_old 4 rfl rfl) (fun w1 => by kernel_rfl), ?_⟩
            refine ⟨ty_load1 ⟨hb, 1, none⟩ _ (gd_none rfl) rfl rfl (kn_new 0 rfl rfl rfl rfl) Tryz.underlying68 rfl (fun w1 hX => HC1.out w1 hX), ?_⟩
            refine ⟨ty_move (gd_none rfl) rfl rfl (kn_old 5 rfl rfl), ?_⟩
            refine ⟨ty_indexSliceN lg _ _ k 32 _ (gd_none rfl) rfl rfl (kn_new 1 rfl rfl rfl rfl) (kn_new 2 rfl rfl rfl rfl) HKN.out Tryz.underlying68 hash_size', ?_⟩
            refine ⟨ty_loadAgg 120 lg (k * 32) _ (gd_none rfl) rfl rfl (kn_new 3 rfl rfl rfl rfl) Tryz.underlying120 rfl hash_size' (fun w1 hX => HLC.out w1 hX), ?_⟩
            refine ⟨ty_fieldAddr _ _ (gd_none rfl) rfl rfl (kn_old 4 rfl rfl) (fun w1 => by kernel_rfl), ?_⟩
            refine ⟨ty_load1 ⟨hb, 2, none⟩ _ (gd_none rfl) rfl rfl (kn_new 5 rfl rfl rfl rfl) Tryz.underlying3 rfl (fun w1 hX => HC2.out w1 hX), ?_⟩
            refine ⟨ty_call2 146 _ _ _ _ _ (gd_none rfl) rfl body_isHash (kn_new 4 rfl rfl rfl rfl) (kn_new 6 rfl rfl rfl rfl) (fun w1 hX => known_call rfl (isHashN_any num HNM.out w1)), ?_⟩
            refine ⟨ty_not true (gd_none rfl) rfl rfl (kn_new 7 rfl rfl rfl rfl), ?_⟩
            refine ⟨ty_move (gd_none rfl) rfl rfl (kn_new 8 rfl rfl rfl rfl), ?_⟩
            refine ⟨ty_move (gd_some 9 rfl rfl rfl rfl rfl) rfl rfl (kn_old 5 rfl rfl), ?_⟩
            refine ⟨ty_fieldAddr _ _ (gd_some 9 rfl rfl rfl rfl rfl) rfl rfl (kn_old 4 rfl rfl) (fun w1 => by kernel_rfl), ?_⟩
            refine ⟨ty_load1 ⟨hb, 0, none⟩ _ (gd_some 9 rfl rfl rfl rfl rfl) rfl rfl (kn_new 11 rfl rfl rfl rfl) Tryz.underlying68 rfl (fun w1 hX => HC0.out w1 hX), ?_⟩
            refine ⟨ty_lenS (some ⟨vg, 0, none⟩) n vcap Tryz.underlying68 (gd_some 9 rfl rfl rfl rfl rfl) rfl rfl (kn_new 12 rfl rfl rfl rfl), ?_⟩
            refine ⟨ty_bin _ _ _ (gd_some 9 rfl rfl rfl rfl rfl) rfl rfl (kn_new 10 rfl rfl rfl rfl) (kn_new 13 rfl rfl rfl rfl) (run_lssInt .i64 _ _ _ HLT2.out), ?_⟩
            refine ⟨ty_move (gd_some 9 rfl rfl rfl rfl rfl) rfl rfl (kn_new 14 rfl rfl rfl rfl), ?_⟩
            refine ⟨ty_fieldAddr _ _ (gd_some 15 rfl rfl rfl rfl rfl) rfl rfl (kn_old 4 rfl rfl) (fun w1 => by kernel_rfl), ?_⟩
            refine ⟨ty_load1 ⟨hb, 0, none⟩ _ (gd_some 15 rfl rfl rfl rfl rfl) rfl rfl (kn_new 16 rfl rfl rfl rfl) Tryz.underlying68 rfl (fun w1 hX => HC0.out w1 hX), ?_⟩
            refine ⟨ty_move (gd_some 15 rfl rfl rfl rfl rfl) rfl rfl (kn_old 5 rfl rfl), ?_⟩
            refine ⟨ty_indexSliceN vg _ _ k 32 _ (gd_some 15 rfl rfl rfl rfl rfl) rfl rfl (kn_new 17 rfl rfl rfl rfl) (kn_new 18 rfl rfl rfl rfl) HKV.out Tryz.underlying68 hash_size', ?_⟩
            refine ⟨ty_loadAgg 120 vg (k * 32) _ (gd_some 15 rfl rfl rfl rfl rfl) rfl rfl (kn_new 19 rfl rfl rfl rfl) Tryz.underlying120 rfl hash_size' (fun w1 hX => HVC.out w1 hX), ?_⟩
            refine ⟨ty_fieldAddr _ _ (gd_some 15 rfl rfl rfl rfl rfl) rfl rfl (kn_old 4 rfl rfl) (fun w1 => by kernel_rfl), ?_⟩
            refine ⟨ty_load1 ⟨hb, 2, none⟩ _ (gd_some 15 rfl rfl rfl rfl rfl) rfl rfl (kn_new 21 rfl rfl rfl rfl) Tryz.underlying3 rfl (fun w1 hX => HC2.out w1 hX), ?_⟩
            refine ⟨ty_call2 146 _ _ _ _ _ (gd_some 15 rfl rfl rfl rfl rfl) rfl body_isHash (kn_new 20 rfl rfl rfl rfl) (kn_new 22 rfl rfl rfl rfl) (fun w1 hX => known_call rfl (isHashN_any num HNM.out w1)), ?_⟩
            refine ⟨ty_not true (gd_some 15 rfl rfl rfl rfl rfl) rfl rfl (kn_new 23 rfl rfl rfl rfl), ?_⟩
            refine ⟨ty_pickT (gd_some 9 rfl rfl rfl rfl rfl) rfl rfl (kn_new 15 rfl rfl rfl rfl) (kn_new 24 rfl rfl rfl rfl), ?_⟩
            refine ⟨ty_pickF (gd_none rfl) rfl rfl (kn_new 9 rfl rfl rfl rfl) (kn_new 25 rfl rfl rfl rfl), ?_⟩
            exact trivial
          · have HLT2 := Lib.hid (show decide ((k : Int) < (n : Int)) = false by simp; omega)
            clear hu hkv
            go_wp2_with fail
            refine region_slots (fun _ => ⟨0, 0, none⟩) [.inl (.pointer (some ⟨hb, 1, none⟩)), .inl (.slice (some ⟨lg, 0, none⟩) (n + 70) lcap), .inl (.int .i64 (k : Int)), .inl (.pointer (some ⟨lg, k * 32, none⟩)), .inl (.agg (markN num).toArray), .inl (.pointer (some ⟨hb, 2, none⟩)), .inl (.int .i64 num), .inl (.bool true), .inl (.bool false), .inl (.bool false), .inl (.int .i64 (k : Int)), .inl (.pointer (some ⟨hb, 0, none⟩)), .inl (.slice va n vcap), .inl (.int .i64 n), .inl (.bool false), .inl (.bool false), .inl undef, .inl undef, .inl undef, .inl undef, .inl undef, .inl undef, .inl undef, .inl undef, .inl undef, .inl (.bool false), .inl (.bool false)] (by kernel_rfl) (by rfl) (by rfl) ?_ ?_
            rotate_left
            · intro v' w' X hv
              have h63 := slot_val (hv 26 _ 63 rfl rfl) rfl
              have HX2 := Lib.hid X
              have HPX := Lib.hid (Ext.blk X HPB.out)
              clear X hv
              refine q_norm (by simp only [putAll]; rewrite [h63]; go_simp; all_goals exact rfl) ?_
              clear h63
              go_wp2_with fail
              exact ⟨⟨k + 1, by simp, by omega, HU.out.trans HX2.out, HPX.out⟩, by simp [RowKit.intOf]; omega⟩
            refine ⟨ty_fieldAddr _ _ (gd_none rfl) rfl rfl (kn_old 4 rfl rfl) (fun w1 => by kernel_rfl), ?_⟩
            refine ⟨ty_load1 ⟨hb, 1, none⟩ _ (gd_none rfl) rfl rfl (kn_new 0 rfl rfl rfl rfl) Tryz.underlying68 rfl (fun w1 hX => HC1.out w1 hX), ?_⟩
            refine ⟨ty_move (gd_none rfl) rfl rfl (kn_old 5 rfl rfl), ?_⟩
            refine ⟨ty_indexSliceN lg _ _ k 32 _ (gd_none rfl) rfl rfl (kn_new 1 rfl rfl rfl rfl) (kn_new 2 rfl rfl rfl rfl) HKN.out Tryz.underlying68 hash_size', ?_⟩
            refine ⟨ty_loadAgg 120 lg (k * 32) _ (gd_none rfl) rfl rfl (kn_new 3 rfl rfl rfl rfl) Tryz.underlying120 rfl hash_size' (fun w1 hX => HLC.out w1 hX), ?_⟩
            refine ⟨ty_fieldAddr _ _ (gd_none rfl) rfl rfl (kn_old 4 rfl rfl) (fun w1 => by kernel_rfl), ?_⟩
            refine ⟨ty_load1 ⟨hb, 2, none⟩ _ (gd_none rfl) rfl rfl (kn_new 5 rfl rfl rfl rfl) Tryz.underlying3 rfl (fun w1 hX => HC2.out w1 hX), ?_⟩
            refine ⟨ty_call2 146 _ _ _ _ _ (gd_none rfl) rfl body_isHash (kn_new 4 rfl rfl rfl rfl) (kn_new 6 rfl rfl rfl rfl) (fun w1 hX => known_call rfl (isHashN_any num HNM.out w1)), ?_⟩
            refine ⟨ty_not true (gd_none rfl) rfl rfl (kn_new 7 rfl rfl rfl rfl), ?_⟩
            refine ⟨ty_move (gd_none rfl) rfl rfl (kn_new 8 rfl rfl rfl rfl), ?_⟩
            refine ⟨ty_move (gd_some 9 rfl rfl rfl rfl rfl) rfl rfl (kn_old 5 rfl rfl), ?_⟩
            refine ⟨ty_fieldAddr _ _ (gd_some 9 rfl rfl rfl rfl rfl) rfl rfl (kn_old 4 rfl rfl) (fun w1 => by kernel_rfl), ?_⟩
            refine ⟨ty_load1 ⟨hb, 0, none⟩ _ (gd_some 9 rfl rfl rfl rfl rfl) rfl rfl (kn_new 11 rfl rfl rfl rfl) Tryz.underlying68 rfl (fun w1 hX => HC0.out w1 hX), ?_⟩
            refine ⟨ty_lenS va n vcap Tryz.underlying68 (gd_some 9 rfl rfl rfl rfl rfl) rfl rfl (kn_new 12 rfl rfl rfl rfl), ?_⟩
            refine ⟨ty_bin _ _ _ (gd_some 9 rfl rfl rfl rfl rfl) rfl rfl (kn_new 10 rfl rfl rfl rfl) (kn_new 13 rfl rfl rfl rfl) (run_lssInt .i64 _ _ _ HLT2.out), ?_⟩
            refine ⟨ty_move (gd_some 9 rfl rfl rfl rfl rfl) rfl rfl (kn_new 14 rfl rfl rfl rfl), ?_⟩
            refine ⟨ty_skip 15 rfl rfl rfl rfl rfl rfl rfl, ?_⟩
            refine ⟨ty_skip 15 rfl rfl rfl rfl rfl rfl rfl, ?_⟩
            refine ⟨ty_skip 15 rfl rfl rfl rfl rfl rfl rfl, ?_⟩
            refine ⟨ty_skip 15 rfl rfl rfl rfl rfl rfl rfl, ?_⟩
            refine ⟨ty_skip 15 rfl rfl rfl rfl rfl rfl rfl, ?_⟩
            refine ⟨ty_skip 15 rfl rfl rfl rfl rfl rfl rfl, ?_⟩
            refine ⟨ty_skip 15 rfl rfl rfl rfl rfl rfl rfl, ?_⟩
            refine ⟨ty_skip 15 rfl rfl rfl rfl rfl rfl rfl, ?_⟩
            refine ⟨ty_skip 15 rfl rfl rfl rfl rfl rfl rfl, ?_⟩
            refine ⟨ty_pickF (gd_some 9 rfl rfl rfl rfl rfl) rfl rfl (kn_new 15 rfl rfl rfl rfl) kn_const, ?_⟩
            refine ⟨ty_pickF (gd_none rfl) rfl rfl (kn_new 9 rfl rfl rfl rfl) (kn_new 25 rfl rfl rfl rfl), ?_⟩
            exact trivial
        · obtain rfl : k = n + 70 := by omega
          have hki : ¬ ((n + 70 : Nat) : Int) < (n : Int) + 70 := by omega
          clear hu hpb
          go_wp2_with fail
          exact ⟨⟨i + 1, by simp, by omega, HUW.out⟩, by simp [RowKit.intOf]; omega⟩
    · obtain rfl : i = L.length := by omega
      clear hu
      go_wp2_with fail
      go_ret
      exact ⟨rfl, HU.out⟩

theorem size_hhelds : (Tryz.prog.info? 51).map (·.size) = some 1 := by kernel_rfl
theorem hheld_zero : ((Tryz.prog.info? 164).bind (·.zero)).isSome = true := by kernel_rfl
theorem info_hheld : (Tryz.prog.info? 164).map (fun i => (i.zero, i.size, i.bytes)) = some (some (.agg #[.slice none 0 0, .slice none 0 0, .int .i64 0]), 3, 56) := by kernel_rfl
section
variable {B : Nat} {W W2 : World} {tv tv' : Value} {L : List HeldD} {C : Nat → List Value}
theorem HoldH.keep (h : HoldH B W tv L C) {v : Value} {n : Nat} {xs : List Value} (hv : W.ownsRow B 120 32 v n xs) (hsep : ∀ (i : Nat) h g, L[i]? = some h → v.ownBlock = some g → h.v.ownBlock ≠ some g) {num : Nat}
    (ho : W2.ownsRow B 164 3 tv' (L.length + 1) (heldsL L ++ [v, .slice none 0 0, .int .i64 num])) (hg : W.grownBy W2 tv.ownBlock) : HoldH B W2 tv' (L ++ [⟨v, .slice none 0 0, n, num⟩]) (fun j => if j = L.length then xs else C j) := by
  have U : Upd (fun g => tv.ownBlock = some g) W W2 := (Upd.refl _ W).grown hg (fun g hg => .inr hg)
  have get : ∀ (j : Nat) hd, (L ++ [⟨v, .slice none 0 0, n, num⟩])[j]? = some hd → (j = L.length ∧ hd = ⟨v, .slice none 0 0, n, num⟩) ∨ (j ≠ L.length ∧ L[j]? = some hd) := fun j hd hj => by
    by_cases hlt : j < L.length
    · rw [List.getElem?_append_left hlt] at hj
      exact .inr ⟨by omega, hj⟩
    · rw [List.getElem?_append_right (by omega)] at hj
      have hl := (List.getElem?_eq_some_iff.1 hj).1
      simp only [List.length_cons, List.length_nil] at hl
      have e : j = L.length := by omega
      subst e
      simp only [Nat.sub_self, List.getElem?_cons_zero, Option.some.injEq] at hj
      exact .inl ⟨rfl, hj.symm⟩
  refine ⟨?_, fun j hd hj => ?_, fun j k hd hd' g hj hk hne hg2 => ?_⟩
  · have e : heldsL (L ++ [⟨v, .slice none 0 0, n, num⟩]) = heldsL L ++ [v, .slice none 0 0, .int .i64 num] := by unfold heldsL; rw [List.flatMap_append]; rfl
    rw [e, List.length_append]
    exact ho
  · rcases get j hd hj with ⟨e, rfl⟩ | ⟨e, hj⟩
    · simp only [if_pos e]
      exact ownsRow_upd hv U (fun g hg2 hs => own_apart hv h.row (by decide) hg2 hs)
    · simp only [if_neg e]
      exact ownsRow_upd (h.own j hd hj) U (fun g hg2 hs => h.apart ⟨j, hd, hj, hg2⟩ hs)
  · rcases get j hd hj with ⟨e, rfl⟩ | ⟨e, hj⟩ <;> rcases get k hd' hk with ⟨e', rfl⟩ | ⟨e', hk⟩
    · omega
    · exact hsep k hd' g hk hg2
    · exact fun hg3 => hsep j hd g hj hg3 hg2
    · exact h.sep j k hd hd' g hj hk hne hg2
/-- A store into the book itself. -/
theorem HoldH.store (h : HoldH B W tv L C) {b : Nat} {cs : Array Value} {f : Nat × Nat} (hb : W.heap[b]? = some (.cells cs 64 f)) (c : Nat) (u : Value) : HoldH B (W.setCell ⟨b, c, none⟩ u) tv L C := by
  refine h.upd ((Upd.refl (one b) W).setCell (p := ⟨b, c, none⟩) (.inr rfl) u) (fun g hg => ?_)
  obtain rfl : g = b := hg
  refine ⟨fun ⟨i, hd, hi, hg2⟩ => ?_, fun hg2 => ?_⟩
  · obtain ⟨cl, h1⟩ := own_ty (h.own i hd hi) hg2
    rw [hb] at h1
    simp only [Option.some.injEq, Obj.cells.injEq] at h1
    exact absurd h1.2.1 (by decide)
  · obtain ⟨cl, h1⟩ := own_ty h.row hg2
    rw [hb] at h1
    simp only [Option.some.injEq, Obj.cells.injEq] at h1
    exact absurd h1.2.1 (by decide)
end
set_option maxRecDepth 8000 in
set_option maxHeartbeats 4000000 in
theorem keepH_any {B b N : Nat} {W : World} {tv v : Value} {L : List HeldD} {C : Nat → List Value} {cs : List Value} {n : Nat} {xs : List Value} (hb : W.heap[b]? = some (.cells cs.toArray 64 (0, 0))) (h0 : cs[0]? = some (.int .i64 N)) (h5 : cs[5]? = some tv)
    (H : HoldH B W tv L C) (hv : W.ownsRow B 120 32 v n xs) (hsep : ∀ (i : Nat) h g, L[i]? = some h → v.ownBlock = some g → h.v.ownBlock ≠ some g) (hB : B ≤ W.heap.size) (hN : N ≤ 1000000) (hn : L.length ≤ 1000000) :
    Calls Tryz.prog 159 #[.pointer (some ⟨b, 0, none⟩), v] W fun e W' => e = .returned (.tuple #[]) ∧ ∃ tv', HoldH B W' tv' (L ++ [⟨v, .slice none 0 0, n, N + 1⟩]) (fun j => if j = L.length then xs else C j) ∧
      W'.heap[b]? = some (.cells ((cs.toArray.setIfInBounds 0 (.int .i64 ((N : Int) + 1))).setIfInBounds 5 tv') 64 (0, 0)) ∧ Upd (fun g => g = b ∨ tv.ownBlock = some g) W W' := by
  obtain ⟨j0, hj0, hjz0, hjz1, hjz2⟩ := info_parts info_hheld
  obtain ⟨va, vcap, rfl⟩ := own_slice hv
  have c0 : W.cell? ⟨b, 0, none⟩ = some (.int .i64 N) := by rw [cell_of_blk hb]; simpa using h0
  have f0 := free_of_blk hb 0
  have hs := blk_set hb 0 (.int .i64 ((N : Int) + 1))
  have HBK1 := Lib.hid hs
  have HH1 := Lib.hid (H.store hb 0 (.int .i64 ((N : Int) + 1)))
  have U1 : Upd (fun g => g = b ∨ tv.ownBlock = some g) W (W.setCell ⟨b, 0, none⟩ (.int .i64 ((N : Int) + 1))) := (Upd.refl _ W).setCell (p := ⟨b, 0, none⟩) (.inr (.inl rfl)) _
  have HU1 := Lib.hid U1
  have HV1 := Lib.hid (ownsRow_upd hv ((Upd.refl (one b) W).setCell (p := ⟨b, 0, none⟩) (.inr rfl) (.int .i64 ((N : Int) + 1))) (fun g hg e => by
    obtain rfl : g = b := e
    exact row_not_book hv hb (by decide) hg))
  have HSEP := Lib.hid hsep
  have HB1 := Lib.hid (Nat.le_trans hB U1.size)
  have hl0 : 0 < cs.length := (List.getElem?_eq_some_iff.1 h0).1
  have HC0 := Lib.hid (show (cs.toArray.setIfInBounds 0 (.int .i64 ((N : Int) + 1)))[0]? = some (.int .i64 ((N : Int) + 1)) by simp [hl0])
  have HC5 := Lib.hid (show (cs.toArray.setIfInBounds 0 (.int .i64 ((N : Int) + 1)))[5]? = some tv by rw [Array.getElem?_setIfInBounds_ne (by decide)]; simpa using h5)
  have HBT := Lib.hid (row_not_book H.row hb (by decide))
  have HM := Lib.hid (show L.length + 1 ≤ maxLen ∧ (L.length + 1) * 56 ≤ 140737488355328 by unfold maxLen; omega)
  have HONE := Lib.hid (held_one (.slice va n vcap) (.slice none 0 0) ((N : Int) + 1) rfl rfl)
  clear hb h0 h5 H hv hsep hB hn hs U1 hl0
  go_enter Tryz.func159, Tryz.ntmps159
  go_wp2_with fail
  generalize hW1 : W.setCell ⟨b, 0, none⟩ (.int .i64 ((N : Int) + 1)) = W1 at *
  refine wp_region_any (by kernel_rfl) ?_
  change wpAny _ _ _ _ _ _ _ (World.drew _)
  have hdr := (Upd.refl none' W1).drew
  have HH := Lib.hid (HH1.out.ext hdr)
  have HV := Lib.hid (ownsRow_upd HV1.out hdr (fun _ _ e => e))
  have HBK := Lib.hid (Ext.blk hdr HBK1.out)
  have HU := Lib.hid (HU1.out.thenExt hdr)
  have HSZ := Lib.hid (Nat.le_trans HB1.out hdr.size)
  clear hdr
  generalize W1.drew = wd at HH HV HBK HU HSZ ⊢
  (refine wpAny_take (i := 0) (v := ?_) rfl (by kernel_rfl) (by kernel_rfl) (by kernel_rfl) (fun _ _ _ h => h) (Or.inl ⟨by rfl, ?_⟩) ?_; rotate_left; (· (intro w; go_simp; all_goals (with_reducible rfl))); refine any_norm (by go_simp; all_goals exact rfl) ?_)
  (refine wpAny_take (i := 1) (v := ?_) rfl (by kernel_rfl) (by kernel_rfl) (by kernel_rfl) (fun _ _ _ h => h) (Or.inl ⟨by rfl, ?_⟩) ?_; rotate_left; (· (intro w; go_simp; all_goals (with_reducible rfl))); refine any_norm (by go_simp; all_goals exact rfl) ?_)
  (refine wpAny_take (i := 2) (v := ?_) rfl (by kernel_rfl) (by kernel_rfl) (by kernel_rfl) (fun _ _ _ h => h) (Or.inl ⟨by rfl, ?_⟩) ?_; rotate_left; (· (intro w; go_simp; all_goals (with_reducible rfl))); refine any_norm (by go_simp; all_goals exact rfl) ?_)
  (refine wpAny_take (i := 3) (v := ?_) rfl (by kernel_rfl) (by kernel_rfl) (by kernel_rfl) (fun _ _ _ h => h) (Or.inl ⟨by rfl, ?_⟩) ?_; rotate_left; (· (intro w; go_simp; all_goals (with_reducible rfl))); refine any_norm (by go_simp; all_goals exact rfl) ?_)
  (refine wpAny_take (i := 5) (v := ?_) rfl (by kernel_rfl) (by kernel_rfl) (by kernel_rfl) (fun _ _ _ h => h) (Or.inl ⟨by rfl, ?_⟩) ?_; rotate_left; (· (intro w; go_simp; all_goals (with_reducible rfl))); refine any_norm (by go_simp; all_goals exact rfl) ?_)
  (refine wpAny_take (i := 6) (v := ?_) rfl (by kernel_rfl) (by kernel_rfl) (by kernel_rfl) (fun _ _ _ h => h) (Or.inl ⟨by rfl, ?_⟩) ?_; rotate_left; (· (intro w; go_simp; all_goals (with_reducible rfl))); refine any_norm (by go_simp; all_goals exact rfl) ?_)
  (refine wpAny_take (i := 7) (v := ?_) rfl (by kernel_rfl) (by kernel_rfl) (by kernel_rfl) (fun _ _ _ h => h) (Or.inl ⟨by rfl, ?_⟩) ?_; rotate_left; (· (intro w; go_simp; all_goals (with_reducible rfl))); refine any_norm (by go_simp; all_goals exact rfl) ?_)
  (refine wpAny_take (i := 8) (v := ?_) rfl (by kernel_rfl) (by kernel_rfl) (by kernel_rfl) (fun _ _ _ h => h) (Or.inl ⟨by rfl, ?_⟩) ?_; rotate_left; (· (intro w; go_simp; all_goals (with_reducible rfl))); refine any_norm (by go_simp; all_goals exact rfl) ?_)
  refine any2 4 9 (by kernel_rfl) ?_ ?_
  · have cl := (cell_of_blk HBK.out 5).trans HC5.out
    refine op_load1 rfl (by rfl) rfl ⟨b, 5, none⟩ tv rfl Tryz.underlying51 rfl (by rw [cl]) ?_
    clear cl
    refine any_norm (by go_simp; all_goals exact rfl) ?_
    refine any1 9 (by kernel_rfl) ?_
    have cl := (cell_of_blk HBK.out 0).trans HC0.out
    refine op_load1 rfl (by rfl) rfl ⟨b, 0, none⟩ (.int .i64 ((N : Int) + 1)) rfl Tryz.underlying3 rfl (by rw [cl]) ?_
    clear cl
    refine any_norm (by go_simp; all_goals exact rfl) ?_
    (refine wpAny_take (i := 10) (v := ?_) rfl (by kernel_rfl) (by kernel_rfl) (by kernel_rfl) (fun _ _ _ h => h) (Or.inl ⟨by rfl, ?_⟩) ?_; rotate_left; (· (intro w; go_simp; all_goals (with_reducible rfl))); refine any_norm (by go_simp; all_goals exact rfl) ?_)
    refine any1 11 (by kernel_rfl) ?_
    rename World => wb
    refine op_buildOneA rfl (by rfl) 51 164 _ rfl [.slice va n vcap, .slice none 0 0, .int .i64 ((N : Int) + 1)] rfl Tryz.underlying51 hheld_size hheld_zero (by simp) (by simp) ?_
    have hb4 := blk_alloc wb (.cells #[.slice va n vcap, .slice none 0 0, .int .i64 ((N : Int) + 1)] 164)
    have HN4 := Lib.hid (fun (j : Nat) (u : Value) (hu : ([.slice va n vcap, .slice none 0 0, .int .i64 ((N : Int) + 1)] : List Value)[j]? = some u) => show World.cell? _ ((⟨wb.heap.size, 0, none⟩ : Addr).add j) = some u from by rw [show (⟨wb.heap.size, 0, none⟩ : Addr).add j = ⟨wb.heap.size, j, none⟩ from by unfold Addr.add; split <;> simp_all, cell_of_blk hb4]; simpa using hu)
    have hal := (Upd.refl none' wb).alloc (.cells #[.slice va n vcap, .slice none 0 0, .int .i64 ((N : Int) + 1)] 164)
    replace HH := Lib.hid (HH.out.ext hal)
    replace HV := Lib.hid (ownsRow_upd HV.out hal (fun _ _ e => e))
    replace HBK := Lib.hid (Ext.blk hal HBK.out)
    replace HU := Lib.hid (HU.out.thenExt hal)
    replace HSZ := Lib.hid (Nat.le_trans HSZ.out hal.size)
    clear hb4 hal
    refine any_norm (by go_simp; all_goals exact rfl) ?_
    refine any1 12 (by kernel_rfl) ?_
    refine op_app1 rfl (by rfl) (.tmp 15) (.tmp 22) 51 rfl B 164 j0 _ 3 56 Tryz.underlying51 hj0 hjz0 hjz1 hjz2 rfl (by decide) tv _ _ rfl HH.out.row ⟨wb.heap.size, 0, none⟩ 1 1 [.slice va n vcap, .slice none 0 0, .int .i64 ((N : Int) + 1)] rfl rfl HN4.out HONE.out HM.out.1 HM.out.2 HSZ.out ?_
    intro tv' w7 ho hg _
    have hk := HH.out.keep HV.out HSEP.out (num := N + 1) ho hg
    have hbk := (Upd.refl (fun g => tv.ownBlock = some g) _).grown hg (fun g hg => .inr hg)
    have HBK7 := Lib.hid (hbk.blk HBK.out HBT.out)
    have HU7 := Lib.hid (HU.out.grown hg (fun g hg => .inr (.inr hg)))
    have HK7 := Lib.hid hk
    have HO7 := Lib.hid (own_one hk.row)
    have HC7 := Lib.hid (own_cells hk.row)
    clear ho hg hk hbk
    refine any_norm (by go_simp; all_goals exact rfl) ?_
    (refine wpAny_take (i := 13) (v := ?_) rfl (by kernel_rfl) (by kernel_rfl) (by kernel_rfl) (fun _ _ _ h => h) (Or.inl ⟨by rfl, ?_⟩) ?_; rotate_left; (· (intro w; go_simp; all_goals (with_reducible rfl))); refine any_norm (by go_simp; all_goals exact rfl) ?_)
    (refine wpAny_take (i := 14) (v := ?_) rfl (by kernel_rfl) (by kernel_rfl) (by kernel_rfl) (fun _ _ _ h => h) (Or.inl ⟨by rfl, ?_⟩) ?_; rotate_left; (· (intro w; go_simp; all_goals (with_reducible rfl))); refine any_norm (by go_simp; all_goals exact rfl) ?_)
    refine any1 15 (by kernel_rfl) ?_
    have c3 := (cell_of_blk HBK7.out 5).trans HC5.out
    have f3 := free_of_blk HBK7.out 5
    refine op_store1 rfl (by rfl) 51 _ _ rfl ⟨b, 5, none⟩ rfl tv' rfl HC7.out HO7.out size_hhelds tv (by rw [c3]) f3 ?_
    clear c3 f3
    refine any_norm (by go_simp; all_goals exact rfl) ?_
    refine wpAny_done (by kernel_rfl) ?_ _
    go_wp2_with fail
    go_end0
    exact ⟨rfl, tv', HK7.out.store HBK7.out 5 tv', blk_set HBK7.out 5 tv', HU7.out.setCell (p := ⟨b, 5, none⟩) (.inr (.inl rfl)) tv'⟩
  · have cl := (cell_of_blk HBK.out 0).trans HC0.out
    refine op_load1 rfl (by rfl) rfl ⟨b, 0, none⟩ (.int .i64 ((N : Int) + 1)) rfl Tryz.underlying3 rfl (by rw [cl]) ?_
    clear cl
    refine any_norm (by go_simp; all_goals exact rfl) ?_
    (refine wpAny_take (i := 10) (v := ?_) rfl (by kernel_rfl) (by kernel_rfl) (by kernel_rfl) (fun _ _ _ h => h) (Or.inl ⟨by rfl, ?_⟩) ?_; rotate_left; (· (intro w; go_simp; all_goals (with_reducible rfl))); refine any_norm (by go_simp; all_goals exact rfl) ?_)
    refine any2 4 11 (by kernel_rfl) ?_ ?_
    · have cl := (cell_of_blk HBK.out 5).trans HC5.out
      refine op_load1 rfl (by rfl) rfl ⟨b, 5, none⟩ tv rfl Tryz.underlying51 rfl (by rw [cl]) ?_
      clear cl
      refine any_norm (by go_simp; all_goals exact rfl) ?_
      refine any1 11 (by kernel_rfl) ?_
      rename World => wb
      refine op_buildOneA rfl (by rfl) 51 164 _ rfl [.slice va n vcap, .slice none 0 0, .int .i64 ((N : Int) + 1)] rfl Tryz.underlying51 hheld_size hheld_zero (by simp) (by simp) ?_
      have hb4 := blk_alloc wb (.cells #[.slice va n vcap, .slice none 0 0, .int .i64 ((N : Int) + 1)] 164)
      have HN4 := Lib.hid (fun (j : Nat) (u : Value) (hu : ([.slice va n vcap, .slice none 0 0, .int .i64 ((N : Int) + 1)] : List Value)[j]? = some u) => show World.cell? _ ((⟨wb.heap.size, 0, none⟩ : Addr).add j) = some u from by rw [show (⟨wb.heap.size, 0, none⟩ : Addr).add j = ⟨wb.heap.size, j, none⟩ from by unfold Addr.add; split <;> simp_all, cell_of_blk hb4]; simpa using hu)
      have hal := (Upd.refl none' wb).alloc (.cells #[.slice va n vcap, .slice none 0 0, .int .i64 ((N : Int) + 1)] 164)
      replace HH := Lib.hid (HH.out.ext hal)
      replace HV := Lib.hid (ownsRow_upd HV.out hal (fun _ _ e => e))
      replace HBK := Lib.hid (Ext.blk hal HBK.out)
      replace HU := Lib.hid (HU.out.thenExt hal)
      replace HSZ := Lib.hid (Nat.le_trans HSZ.out hal.size)
      clear hb4 hal
      refine any_norm (by go_simp; all_goals exact rfl) ?_
      refine any1 12 (by kernel_rfl) ?_
      refine op_app1 rfl (by rfl) (.tmp 15) (.tmp 22) 51 rfl B 164 j0 _ 3 56 Tryz.underlying51 hj0 hjz0 hjz1 hjz2 rfl (by decide) tv _ _ rfl HH.out.row ⟨wb.heap.size, 0, none⟩ 1 1 [.slice va n vcap, .slice none 0 0, .int .i64 ((N : Int) + 1)] rfl rfl HN4.out HONE.out HM.out.1 HM.out.2 HSZ.out ?_
      intro tv' w7 ho hg _
      have hk := HH.out.keep HV.out HSEP.out (num := N + 1) ho hg
      have hbk := (Upd.refl (fun g => tv.ownBlock = some g) _).grown hg (fun g hg => .inr hg)
      have HBK7 := Lib.hid (hbk.blk HBK.out HBT.out)
      have HU7 := Lib.hid (HU.out.grown hg (fun g hg => .inr (.inr hg)))
      have HK7 := Lib.hid hk
      have HO7 := Lib.hid (own_one hk.row)
      have HC7 := Lib.hid (own_cells hk.row)
      clear ho hg hk hbk
      refine any_norm (by go_simp; all_goals exact rfl) ?_
      (refine wpAny_take (i := 13) (v := ?_) rfl (by kernel_rfl) (by kernel_rfl) (by kernel_rfl) (fun _ _ _ h => h) (Or.inl ⟨by rfl, ?_⟩) ?_; rotate_left; (· (intro w; go_simp; all_goals (with_reducible rfl))); refine any_norm (by go_simp; all_goals exact rfl) ?_)
      (refine wpAny_take (i := 14) (v := ?_) rfl (by kernel_rfl) (by kernel_rfl) (by kernel_rfl) (fun _ _ _ h => h) (Or.inl ⟨by rfl, ?_⟩) ?_; rotate_left; (· (intro w; go_simp; all_goals (with_reducible rfl))); refine any_norm (by go_simp; all_goals exact rfl) ?_)
      refine any1 15 (by kernel_rfl) ?_
      have c3 := (cell_of_blk HBK7.out 5).trans HC5.out
      have f3 := free_of_blk HBK7.out 5
      refine op_store1 rfl (by rfl) 51 _ _ rfl ⟨b, 5, none⟩ rfl tv' rfl HC7.out HO7.out size_hhelds tv (by rw [c3]) f3 ?_
      clear c3 f3
      refine any_norm (by go_simp; all_goals exact rfl) ?_
      refine wpAny_done (by kernel_rfl) ?_ _
      go_wp2_with fail
      go_end0
      exact ⟨rfl, tv', HK7.out.store HBK7.out 5 tv', blk_set HBK7.out 5 tv', HU7.out.setCell (p := ⟨b, 5, none⟩) (.inr (.inl rfl)) tv'⟩
    · rename World => wb
      refine op_buildOneA rfl (by rfl) 51 164 _ rfl [.slice va n vcap, .slice none 0 0, .int .i64 ((N : Int) + 1)] rfl Tryz.underlying51 hheld_size hheld_zero (by simp) (by simp) ?_
      have hb4 := blk_alloc wb (.cells #[.slice va n vcap, .slice none 0 0, .int .i64 ((N : Int) + 1)] 164)
      have HN4 := Lib.hid (fun (j : Nat) (u : Value) (hu : ([.slice va n vcap, .slice none 0 0, .int .i64 ((N : Int) + 1)] : List Value)[j]? = some u) => show World.cell? _ ((⟨wb.heap.size, 0, none⟩ : Addr).add j) = some u from by rw [show (⟨wb.heap.size, 0, none⟩ : Addr).add j = ⟨wb.heap.size, j, none⟩ from by unfold Addr.add; split <;> simp_all, cell_of_blk hb4]; simpa using hu)
      have hal := (Upd.refl none' wb).alloc (.cells #[.slice va n vcap, .slice none 0 0, .int .i64 ((N : Int) + 1)] 164)
      replace HH := Lib.hid (HH.out.ext hal)
      replace HV := Lib.hid (ownsRow_upd HV.out hal (fun _ _ e => e))
      replace HBK := Lib.hid (Ext.blk hal HBK.out)
      replace HU := Lib.hid (HU.out.thenExt hal)
      replace HSZ := Lib.hid (Nat.le_trans HSZ.out hal.size)
      clear hb4 hal
      refine any_norm (by go_simp; all_goals exact rfl) ?_
      refine any1 4 (by kernel_rfl) ?_
      have cl := (cell_of_blk HBK.out 5).trans HC5.out
      refine op_load1 rfl (by rfl) rfl ⟨b, 5, none⟩ tv rfl Tryz.underlying51 rfl (by rw [cl]) ?_
      clear cl
      refine any_norm (by go_simp; all_goals exact rfl) ?_
      refine any1 12 (by kernel_rfl) ?_
      refine op_app1 rfl (by rfl) (.tmp 15) (.tmp 22) 51 rfl B 164 j0 _ 3 56 Tryz.underlying51 hj0 hjz0 hjz1 hjz2 rfl (by decide) tv _ _ rfl HH.out.row ⟨wb.heap.size, 0, none⟩ 1 1 [.slice va n vcap, .slice none 0 0, .int .i64 ((N : Int) + 1)] rfl rfl HN4.out HONE.out HM.out.1 HM.out.2 HSZ.out ?_
      intro tv' w7 ho hg _
      have hk := HH.out.keep HV.out HSEP.out (num := N + 1) ho hg
      have hbk := (Upd.refl (fun g => tv.ownBlock = some g) _).grown hg (fun g hg => .inr hg)
      have HBK7 := Lib.hid (hbk.blk HBK.out HBT.out)
      have HU7 := Lib.hid (HU.out.grown hg (fun g hg => .inr (.inr hg)))
      have HK7 := Lib.hid hk
      have HO7 := Lib.hid (own_one hk.row)
      have HC7 := Lib.hid (own_cells hk.row)
      clear ho hg hk hbk
      refine any_norm (by go_simp; all_goals exact rfl) ?_
      (refine wpAny_take (i := 13) (v := ?_) rfl (by kernel_rfl) (by kernel_rfl) (by kernel_rfl) (fun _ _ _ h => h) (Or.inl ⟨by rfl, ?_⟩) ?_; rotate_left; (· (intro w; go_simp; all_goals (with_reducible rfl))); refine any_norm (by go_simp; all_goals exact rfl) ?_)
      (refine wpAny_take (i := 14) (v := ?_) rfl (by kernel_rfl) (by kernel_rfl) (by kernel_rfl) (fun _ _ _ h => h) (Or.inl ⟨by rfl, ?_⟩) ?_; rotate_left; (· (intro w; go_simp; all_goals (with_reducible rfl))); refine any_norm (by go_simp; all_goals exact rfl) ?_)
      refine any1 15 (by kernel_rfl) ?_
      have c3 := (cell_of_blk HBK7.out 5).trans HC5.out
      have f3 := free_of_blk HBK7.out 5
      refine op_store1 rfl (by rfl) 51 _ _ rfl ⟨b, 5, none⟩ rfl tv' rfl HC7.out HO7.out size_hhelds tv (by rw [c3]) f3 ?_
      clear c3 f3
      refine any_norm (by go_simp; all_goals exact rfl) ?_
      refine wpAny_done (by kernel_rfl) ?_ _
      go_wp2_with fail
      go_end0
      exact ⟨rfl, tv', HK7.out.store HBK7.out 5 tv', blk_set HBK7.out 5 tv', HU7.out.setCell (p := ⟨b, 5, none⟩) (.inr (.inl rfl)) tv'⟩

set_option maxRecDepth 8000 in
set_option maxHeartbeats 8000000 in
theorem apartH_any {B b : Nat} {W : World} {tv : Value} {L : List HeldD} {C : Nat → List Value} {cs : Array Value} (hb : W.heap[b]? = some (.cells cs 64 (0, 0))) (hcs : ∀ c, 1 ≤ c → c ≤ 16 → c ≠ 5 → cs[c]? = some (.slice none 0 0)) (h5 : cs[5]? = some tv)
    (H : HoldH B W tv L C) (hB : B ≤ W.heap.size) (hn : L.length ≤ 1000000) (hnn : ∀ (i : Nat) h, L[i]? = some h → h.n ≤ 1000000000 ∧ h.num ≤ 1000000000 ∧ h.long = .slice none 0 0) :
    Calls Tryz.prog 18 #[.pointer (some ⟨b, 0, none⟩)] W fun e W' => e = .returned (.bool true) ∧ Upd (fun g => listBs L g ∨ tv.ownBlock = some g) W W' := by
  have hbB : ¬ listBs L b := fun ⟨i, hd, hi, hg⟩ => row_not_book (H.own i hd hi) hb (by decide) hg
  have hbt : tv.ownBlock ≠ some b := row_not_book H.row hb (by decide)
  have HN := Lib.hid (fun (W' : World) (hb : W'.heap[b]? = some (.cells cs 64 (0, 0))) (c : Nat) (h1 : 1 ≤ c) (h2 : c ≤ 16) (h4 : c ≠ 5) => show W'.cell? ⟨b, c, none⟩ = some (.slice none 0 0) from (cell_of_blk hb c).trans (hcs c h1 h2 h4))
  have H3 := Lib.hid (fun (W' : World) (hb : W'.heap[b]? = some (.cells cs 64 (0, 0))) => show W'.cell? ⟨b, 5, none⟩ = some tv from (cell_of_blk hb 5).trans h5)
  have HBK := Lib.hid hb
  have HBB := Lib.hid (show ¬ (listBs L b ∨ tv.ownBlock = some b) from fun h => h.elim hbB hbt)
  have HH := Lib.hid H
  have HNN := Lib.hid hnn
  have HNA := Lib.hid hn
  have HB0 := Lib.hid hB
  have HbB := Lib.hid hbB
  have HbT := Lib.hid hbt
  clear hb hcs h5 H hB hn hnn hbB hbt
  go_enter Tryz.func18, Tryz.ntmps18
  go_wp2_with fail
  refine (fillInt_no (HN.out _ HBK.out 1 (by decide) (by decide) (by decide))).mono ?_
  rintro e w' ⟨rfl, rfl⟩
  go_wp2_with fail
  refine (fillByte_no (HN.out _ HBK.out 2 (by decide) (by decide) (by decide))).mono ?_
  rintro e w' ⟨rfl, rfl⟩
  go_wp2_with fail
  refine (fillText_no (HN.out _ HBK.out 3 (by decide) (by decide) (by decide))).mono ?_
  rintro e w' ⟨rfl, rfl⟩
  go_wp2_with fail
  refine (fillNumber_no (HN.out _ HBK.out 4 (by decide) (by decide) (by decide))).mono ?_
  rintro e w' ⟨rfl, rfl⟩
  go_wp2_with fail
  refine (fillH_any (H3.out _ HBK.out) HbB.out HH.out HNA.out HNN.out).mono ?_
  rintro e W2 ⟨rfl, ⟨C2, H2, hC2⟩, u⟩
  have HBK2 := Lib.hid (u.blk HBK.out HbB.out)
  have HG2 := Lib.hid (GrowH.start H2 hC2 (fun i h hi => (HNN.out i h hi).2.2))
  have HU2 := Lib.hid (u.mono (T := fun g => listBs L g ∨ tv.ownBlock = some g) (fun _ _ h => .inl h))
  have HBL2 := Lib.hid (Nat.le_trans HB0.out u.size)
  clear H2 hC2 u
  go_wp2_with fail
  refine (fillCoord_no (HN.out _ HBK2.out 6 (by decide) (by decide) (by decide))).mono ?_
  rintro e w' ⟨rfl, rfl⟩
  go_wp2_with fail
  refine (fillSpan_no (HN.out _ HBK2.out 7 (by decide) (by decide) (by decide))).mono ?_
  rintro e w' ⟨rfl, rfl⟩
  go_wp2_with fail
  refine (fillNode_no (HN.out _ HBK2.out 8 (by decide) (by decide) (by decide))).mono ?_
  rintro e w' ⟨rfl, rfl⟩
  go_wp2_with fail
  refine (fillTile_no (HN.out _ HBK2.out 9 (by decide) (by decide) (by decide))).mono ?_
  rintro e w' ⟨rfl, rfl⟩
  go_wp2_with fail
  refine (fillEntry_no (HN.out _ HBK2.out 10 (by decide) (by decide) (by decide))).mono ?_
  rintro e w' ⟨rfl, rfl⟩
  go_wp2_with fail
  refine (fillFound_no (HN.out _ HBK2.out 11 (by decide) (by decide) (by decide))).mono ?_
  rintro e w' ⟨rfl, rfl⟩
  go_wp2_with fail
  refine (fillKnown_no (HN.out _ HBK2.out 12 (by decide) (by decide) (by decide))).mono ?_
  rintro e w' ⟨rfl, rfl⟩
  go_wp2_with fail
  refine (fillVote_no (HN.out _ HBK2.out 13 (by decide) (by decide) (by decide))).mono ?_
  rintro e w' ⟨rfl, rfl⟩
  go_wp2_with fail
  refine (fillPart_no (HN.out _ HBK2.out 14 (by decide) (by decide) (by decide))).mono ?_
  rintro e w' ⟨rfl, rfl⟩
  go_wp2_with fail
  refine (fillHashList_no (HN.out _ HBK2.out 15 (by decide) (by decide) (by decide))).mono ?_
  rintro e w' ⟨rfl, rfl⟩
  go_wp2_with fail
  refine (fillQuery_no (HN.out _ HBK2.out 16 (by decide) (by decide) (by decide))).mono ?_
  rintro e w' ⟨rfl, rfl⟩
  go_wp2_with fail
  refine (growInt_no (HN.out _ HBK2.out 1 (by decide) (by decide) (by decide))).mono ?_
  rintro e w' ⟨rfl, rfl⟩
  go_wp2_with fail
  refine (growByte_no (HN.out _ HBK2.out 2 (by decide) (by decide) (by decide))).mono ?_
  rintro e w' ⟨rfl, rfl⟩
  go_wp2_with fail
  refine (growText_no (HN.out _ HBK2.out 3 (by decide) (by decide) (by decide))).mono ?_
  rintro e w' ⟨rfl, rfl⟩
  go_wp2_with fail
  refine (growNumber_no (HN.out _ HBK2.out 4 (by decide) (by decide) (by decide))).mono ?_
  rintro e w' ⟨rfl, rfl⟩
  go_wp2_with fail
  refine (growH_any (H3.out _ HBK2.out) HbB.out HbT.out HG2.out HBL2.out HNA.out (fun i h hi => ⟨(HNN.out i h hi).1, (HNN.out i h hi).2.1⟩)).mono ?_
  rintro e W3 ⟨rfl, ⟨L3, H3'⟩, u⟩
  have HBK3 := Lib.hid (u.blk HBK2.out HBB.out)
  have HG3 := Lib.hid H3'
  have HU3 := Lib.hid (HU2.out.trans u)
  clear H3' u
  go_wp2_with fail
  refine (growCoord_no (HN.out _ HBK3.out 6 (by decide) (by decide) (by decide))).mono ?_
  rintro e w' ⟨rfl, rfl⟩
  go_wp2_with fail
  refine (growSpan_no (HN.out _ HBK3.out 7 (by decide) (by decide) (by decide))).mono ?_
  rintro e w' ⟨rfl, rfl⟩
  go_wp2_with fail
  refine (growNode_no (HN.out _ HBK3.out 8 (by decide) (by decide) (by decide))).mono ?_
  rintro e w' ⟨rfl, rfl⟩
  go_wp2_with fail
  refine (growTile_no (HN.out _ HBK3.out 9 (by decide) (by decide) (by decide))).mono ?_
  rintro e w' ⟨rfl, rfl⟩
  go_wp2_with fail
  refine (growEntry_no (HN.out _ HBK3.out 10 (by decide) (by decide) (by decide))).mono ?_
  rintro e w' ⟨rfl, rfl⟩
  go_wp2_with fail
  refine (growFound_no (HN.out _ HBK3.out 11 (by decide) (by decide) (by decide))).mono ?_
  rintro e w' ⟨rfl, rfl⟩
  go_wp2_with fail
  refine (growKnown_no (HN.out _ HBK3.out 12 (by decide) (by decide) (by decide))).mono ?_
  rintro e w' ⟨rfl, rfl⟩
  go_wp2_with fail
  refine (growVote_no (HN.out _ HBK3.out 13 (by decide) (by decide) (by decide))).mono ?_
  rintro e w' ⟨rfl, rfl⟩
  go_wp2_with fail
  refine (growPart_no (HN.out _ HBK3.out 14 (by decide) (by decide) (by decide))).mono ?_
  rintro e w' ⟨rfl, rfl⟩
  go_wp2_with fail
  refine (growHashList_no (HN.out _ HBK3.out 15 (by decide) (by decide) (by decide))).mono ?_
  rintro e w' ⟨rfl, rfl⟩
  go_wp2_with fail
  refine (growQuery_no (HN.out _ HBK3.out 16 (by decide) (by decide) (by decide))).mono ?_
  rintro e w' ⟨rfl, rfl⟩
  go_wp2_with fail
  refine (lookInt_no (HN.out _ HBK3.out 1 (by decide) (by decide) (by decide))).mono ?_
  rintro e w' ⟨rfl, rfl⟩
  go_wp2_with fail
  refine (lookByte_no (HN.out _ HBK3.out 2 (by decide) (by decide) (by decide))).mono ?_
  rintro e w' ⟨rfl, rfl⟩
  go_wp2_with fail
  refine (lookText_no (HN.out _ HBK3.out 3 (by decide) (by decide) (by decide))).mono ?_
  rintro e w' ⟨rfl, rfl⟩
  go_wp2_with fail
  refine (lookNumber_no (HN.out _ HBK3.out 4 (by decide) (by decide) (by decide))).mono ?_
  rintro e w' ⟨rfl, rfl⟩
  go_wp2_with fail
  refine (lookH_any (H3.out _ HBK3.out) HG3.out HNA.out (fun i h hi => ⟨(HNN.out i h hi).1, (HNN.out i h hi).2.1⟩)).mono ?_
  rintro e W4 ⟨rfl, u⟩
  have HBK4 := Lib.hid (Ext.blk u HBK3.out)
  have HU4 := Lib.hid (HU3.out.thenExt u)
  clear u
  go_wp2_with fail
  refine (lookCoord_no (HN.out _ HBK4.out 6 (by decide) (by decide) (by decide))).mono ?_
  rintro e w' ⟨rfl, rfl⟩
  go_wp2_with fail
  refine (lookSpan_no (HN.out _ HBK4.out 7 (by decide) (by decide) (by decide))).mono ?_
  rintro e w' ⟨rfl, rfl⟩
  go_wp2_with fail
  refine (lookNode_no (HN.out _ HBK4.out 8 (by decide) (by decide) (by decide))).mono ?_
  rintro e w' ⟨rfl, rfl⟩
  go_wp2_with fail
  refine (lookTile_no (HN.out _ HBK4.out 9 (by decide) (by decide) (by decide))).mono ?_
  rintro e w' ⟨rfl, rfl⟩
  go_wp2_with fail
  refine (lookEntry_no (HN.out _ HBK4.out 10 (by decide) (by decide) (by decide))).mono ?_
  rintro e w' ⟨rfl, rfl⟩
  go_wp2_with fail
  refine (lookFound_no (HN.out _ HBK4.out 11 (by decide) (by decide) (by decide))).mono ?_
  rintro e w' ⟨rfl, rfl⟩
  go_wp2_with fail
  refine (lookKnown_no (HN.out _ HBK4.out 12 (by decide) (by decide) (by decide))).mono ?_
  rintro e w' ⟨rfl, rfl⟩
  go_wp2_with fail
  refine (lookVote_no (HN.out _ HBK4.out 13 (by decide) (by decide) (by decide))).mono ?_
  rintro e w' ⟨rfl, rfl⟩
  go_wp2_with fail
  refine (lookPart_no (HN.out _ HBK4.out 14 (by decide) (by decide) (by decide))).mono ?_
  rintro e w' ⟨rfl, rfl⟩
  go_wp2_with fail
  refine (lookHashList_no (HN.out _ HBK4.out 15 (by decide) (by decide) (by decide))).mono ?_
  rintro e w' ⟨rfl, rfl⟩
  go_wp2_with fail
  refine (lookQuery_no (HN.out _ HBK4.out 16 (by decide) (by decide) (by decide))).mono ?_
  rintro e w' ⟨rfl, rfl⟩
  go_wp2_with fail
  go_ret
  exact ⟨rfl, HU4.out⟩
end Go.Proofs.YtljnhelnmnomoaaGreatDoor
