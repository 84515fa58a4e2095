/- sha.Sum by contract. hash.Leaf, Node, Empty by contracts. A region that draws its order: operations that keep a law on worlds, walked once in the text's order, and a last one that waits for them all. Nothing of the program. -/
import Derived.Test.YtnkcfkjeeennmaaGreatDoorShaS
import Derived.Lib.ConvBytes
import Derived.Test.YtnkcfkjeeennmaaGreatDoorQTail
import Derived.Test.YtnkcfkjeeennmaaGreatDoorInv
namespace Go.Proofs.YtnkcfkjeeennmaaGreatDoor
open Go.RowKit Go.Lib


/-- SHA-256. -/
def shaB (bs : List UInt8) : List UInt8 := outB (abs shaStart (bs ++ finB (bs.length % 64) bs.length))
theorem shaB_len (bs : List UInt8) : (shaB bs).length = 32 := outC_len _ _
def flatS (ps : List ByteArray) : List UInt8 := (ps.map fun p => p.data.toList).flatten
theorem flatS_snoc (ps : List ByteArray) (p : ByteArray) : flatS (ps ++ [p]) = flatS ps ++ p.data.toList := by simp [flatS]
theorem bytesWorld_ext (w : World) (e : TypeId) (s : ByteArray) : Ext w (bytesWorld w e s) :=
  ⟨rfl, rfl, rfl, by rw [bytesWorld_size]; omega, fun k hk _ => bytesWorld_at_old w e s k hk⟩
theorem bytesWorld_cells (w : World) (e : TypeId) (s : ByteArray) : CellsAt (bytesWorld w e s) (some ⟨w.heap.size, 0, none⟩) (s.data.toList.map u8v) := fun j v hv => by
  refine ⟨_, rfl, ?_⟩
  rw [List.getElem?_map] at hv
  cases hx : s.data.toList[j]? with
  | none => rw [hx] at hv; cases hv
  | some b =>
    rw [hx] at hv
    cases hv
    have hj : j < s.size := by
      have := (List.getElem?_eq_some_iff.1 hx).1
      rw [Array.length_toList] at this
      exact this
    rw [Addr.add_lit, Nat.zero_add, bytesWorld_cell w e s j hj, List.getD_eq_getElem?_getD, hx]
    rfl
theorem flatS_take_le (ps : List ByteArray) (k : Nat) : (flatS (ps.take k)).length ≤ (flatS ps).length := by
  have e : flatS ps = flatS (ps.take k) ++ flatS (ps.drop k) := by
    unfold flatS
    rw [← List.flatten_append, ← List.map_append, List.take_append_drop]
  rw [e, List.length_append]
  omega
def SumRel (B db hb : Nat) (ps : List ByteArray) (w : World) (iv : Value) (wr : World) : Prop :=
  ∃ (k : Nat) (rv : Value), k ≤ ps.length ∧ iv = .int .i64 k ∧ DigS B wr db hb rv (flatS (ps.take k)).length (abs shaStart (flatS (ps.take k))) (restB (flatS (ps.take k))) ∧ Upd (fun g => B ≤ g) w wr
set_option maxRecDepth 20000 in
set_option maxHeartbeats 8000000 in
theorem ssum_any (w : World) (A : Option Addr) (ps : List ByteArray) (cap : Nat) (hA0 : A = none ∨ ∃ g o, A = some ⟨g, o, none⟩) (hA : CellsAt w A (ps.map Value.string)) (hps : (flatS ps).length < 1099511627776) (hpl : ps.length < 1099511627776) (hG : 21 < w.heap.size) (htab : ShaTab w) :
    Calls Tryz.prog 93 #[.slice A ps.length cap] w fun e w' => e = .returned (hashV (shaB (flatS ps))) ∧ Ext w w' := by
  have X0 := (Upd.refl none' w).alloc (.cells zero32 30)
  have HQ0 := Lib.hid (blk_alloc w (.cells zero32 30))
  have C := new_any (w.alloc (.cells zero32 30))
  rw [World.size_alloc] at C
  have HX0 := Lib.hid X0
  have HA := Lib.hid hA
  have HA0 := Lib.hid hA0
  have HT := Lib.hid htab
  have HPS := Lib.hid hps
  have HPL := Lib.hid hpl
  have HG := Lib.hid hG
  clear X0 hA hA0 htab hps hG
  go_enter Tryz.func93, Tryz.ntmps93
  go_wp2_with fail
  refine C.mono ?_
  rintro e w1 ⟨rfl, hd, hx⟩
  have HD1 := Lib.hid hd
  have HX1 := Lib.hid hx
  have HXW := Lib.hid (HX0.out.trans hx)
  have HQ1 := Lib.hid (Ext.blk hx HQ0.out)
  have hpl2 : (ps.length : Int) < 1099511627776 := by omega
  clear hd hx C HQ0
  have HDS := Lib.hid (show DigS (w.heap.size + 1) w1 (w.heap.size + 1 + 1) (w.heap.size + 1) (.slice none 0 0) (flatS (ps.take 0)).length (abs shaStart (flatS (ps.take 0))) (restB (flatS (ps.take 0))) from by
    have e0 : flatS (ps.take 0) = [] := rfl
    rw [e0, show abs shaStart [] = shaStart from absorb_lt blockP (by simp)]
    exact HD1.out)
  generalize hq : w.heap.size = q at *
  have HQE := Lib.hid hq
  clear hq
  go_wp2_with fail
  go_loopw [9] (fun iv wr => SumRel (q + 1) (q + 1 + 1) (q + 1) ps w1 iv wr) (fun iv _ => ps.length - (RowKit.intOf iv).toNat)
  case atStart => exact ⟨0, _, Nat.zero_le _, rfl, HDS.out, Upd.refl _ _⟩
  case round =>
    obtain ⟨k, rv, hk, rfl, hd, hx⟩ := hrel
    have HD := Lib.hid hd
    have HX := Lib.hid hx
    clear hd hx
    by_cases hlt : k < ps.length
    · have hki : (k : Int) < ps.length := by omega
      obtain ⟨ad, rfl, hc⟩ := HA.out k (.string ps[k]) (by rw [List.getElem?_map, List.getElem?_eq_getElem hlt]; rfl)
      obtain ⟨gp, op, e0⟩ : ∃ g o, ad = ⟨g, o, none⟩ := by
        rcases HA0.out with h | ⟨g, o, h⟩
        · cases h
        · exact ⟨g, o, Option.some.inj h⟩
      subst e0
      rw [Addr.add_lit] at hc
      have hcw : wr.cell? ⟨gp, op + k, none⟩ = some (.string ps[k]) := by have h1 := Ext.cellv HXW.out hc; rw [Upd.cell HX.out (lt_of_cell h1) (fun e => by have := lt_of_cell hc; have := HQE.out; have e2 : q + 1 ≤ gp := e; have e3 : gp < w.heap.size := lt_of_cell hc; omega)]; exact h1
      have HPK := Lib.hid (show flatS (ps.take (k + 1)) = flatS (ps.take k) ++ ps[k].data.toList by rw [List.take_succ_eq_append_getElem hlt, flatS_snoc])
      generalize ps[k] = p at *
      clear hc
      have hcv := fun (W : World) => Lib.run_convert_string_bytes (P := Tryz.prog) W 9 165 5 p Tryz.underlying9 Tryz.underlying165 Tryz.underlying5
      go_wp2_with fail
      have hbe := bytesWorld_ext wr 5 p
      have hle := flatS_take_le ps (k + 1)
      rw [HPK.out, List.length_append] at hle
      have hpsz : p.data.toList.length = p.size := Array.length_toList
      have hpst := HPS.out
      have C2 := write_any (HD.out.ext hbe) (by rw [restB_len]; omega) (by have := HD.out.lo2; have := lt_of_blk HD.out.hblk; have := hbe.size; omega) (by have := HG.out; omega) (((HT.out.ext HXW.out).upd HX.out (fun e => by have := HG.out; omega)).ext hbe) wr.heap.size 0 p.data.toList (grownCap wr p.size 0 5) (by rw [hpsz]; exact grownCap_ge _ _ _ _) (bytesWorld_cells wr 5 p) (fun e => by have := HD.out.lt _ e; omega) (by omega) (by omega)
      rw [hpsz] at C2
      refine C2.mono ?_
      rintro e w5 ⟨rfl, rv5, hd5, _, u5⟩
      rw [show abs (abs shaStart (flatS (ps.take k))) (restB (flatS (ps.take k)) ++ p.data.toList) = abs shaStart (flatS (ps.take k) ++ p.data.toList) from (absorb_rest blockP _ _ _).symm, ← restB_rest, ← hpsz, ← List.length_append, ← HPK.out] at hd5
      have HD5 := Lib.hid hd5
      have HX5 := Lib.hid (show Upd (fun g => q + 1 ≤ g) w1 w5 from (HX.out.thenExt hbe).then u5 (fun b hb e => HD.out.low b e))
      clear hd5 u5 C2 hle hbe hpst hpsz
      go_wp2_with fail
      exact ⟨⟨k + 1, rv5, by omega, by simp, HD5.out, HX5.out⟩, by simp [RowKit.intOf]; omega⟩
    · have HK := Lib.hid (show k = ps.length by omega)
      have hki : ¬ (k : Int) < ps.length := by omega
      have hrl : (restB (flatS (ps.take k))).length < 64 := by rw [restB_len]; omega
      have C2 := dsum_any HD.out hrl (by have := HD.out.lo2; have := lt_of_blk HD.out.hblk; omega) (by have := HG.out; omega) ((HT.out.ext HXW.out).upd HX.out (fun e => by have := HG.out; omega)) (by have := flatS_take_le ps k; have := HPS.out; omega)
      have HE := Lib.hid (show outB (abs (abs shaStart (flatS (ps.take k))) (restB (flatS (ps.take k)) ++ finB (restB (flatS (ps.take k))).length (flatS (ps.take k)).length)) = shaB (flatS ps) from by
        rw [show ∀ y, abs (abs shaStart (flatS (ps.take k))) (restB (flatS (ps.take k)) ++ y) = abs shaStart (flatS (ps.take k) ++ y) from fun y => (absorb_rest blockP _ _ _).symm, restB_len, HK.out, List.take_length]; rfl)
      rw [HE.out] at C2
      go_wp2_with fail
      refine C2.mono ?_
      rintro e w5 ⟨rfl, hx5⟩
      have HQ5 := Lib.hid (Ext.blk hx5 (HX.out.blk HQ1.out (fun e => by omega)))
      have HX5 := Lib.hid ((HXW.out.then HX.out (fun b hb e => by have := HQE.out; have e2 : q + 1 ≤ b := e; omega)).trans hx5)
      have HSL := Lib.hid (hash_size32 (shaB (flatS ps)) (shaB_len _))
      have H1 := Lib.hid (u8_ones (shaB (flatS ps)))
      have HLL := Lib.hid (show zero32.toList.length = ((shaB (flatS ps)).map u8v).length by simp [shaB_len])
      clear hx5 C2 hrl
      go_wp2_with (refine store_whole rfl 30 _ _ rfl q rfl ((shaB (flatS ps)).map u8v) rfl HSL.out _ _ HQ5.out HLL.out H1.out ?_)
      have hsz : (Tryz.prog.info? 30).map (·.size) = some ((shaB (flatS ps)).map u8v).toArray.size := by rw [HSL.out]; simp
      refine bodyPost_ret (v := .agg ((shaB (flatS ps)).map u8v).toArray) (results_cell_row rfl _ _ q 30 _ (0, 0) _ rfl (blk_setRow HQ5.out _) Tryz.underlying30 rfl hsz) rfl ⟨rfl, ?_⟩
      exact Upd.setRow HX5.out (.inl (by rw [HQE.out]; exact Nat.le_refl _)) _

def leafH (d : List UInt8) : List UInt8 := shaB (0 :: d)
def nodeH (a b : List UInt8) : List UInt8 := shaB (1 :: (a ++ b))
def emptyH : List UInt8 := shaB []
theorem leafH_len (d : List UInt8) : (leafH d).length = 32 := shaB_len _
theorem nodeH_len (a b : List UInt8) : (nodeH a b).length = 32 := shaB_len _
theorem emptyH_len : emptyH.length = 32 := shaB_len _
set_option maxRecDepth 20000 in
set_option maxHeartbeats 4000000 in
theorem leaf_h (w : World) (s : ByteArray) (hs : s.size ≤ 1073741824) (hG : 21 < w.heap.size) (htab : ShaTab w) :
    Calls Tryz.prog 37 #[.string s] w fun e w' => e = .returned (hashV (leafH s.data.toList)) ∧ Ext w w' := by
  have X0 := ((Upd.refl none' w).alloc (.cells zero32 30)).alloc (.cells #[.string ⟨#[0]⟩, .string s] 9)
  have hq := blk_alloc_lt (blk_alloc w (.cells zero32 30)) (.cells #[.string ⟨#[0]⟩, .string s] 9)
  have hp := blk_alloc (w.alloc (.cells zero32 30)) (.cells #[.string ⟨#[0]⟩, .string s] 9)
  rw [World.size_alloc] at hp
  have hfl : flatS [⟨#[0]⟩, s] = 0 :: s.data.toList := by simp [flatS]
  have hsz : s.data.toList.length = s.size := Array.length_toList
  have C := ssum_any ((w.alloc (.cells zero32 30)).alloc (.cells #[.string ⟨#[0]⟩, .string s] 9)) (some ⟨w.heap.size + 1, 0, none⟩) [⟨#[0]⟩, s] 2 (.inr ⟨_, _, rfl⟩) (fun j v hv => ⟨_, rfl, by rw [Addr.add_lit, cell_of_blk hp]; simpa using hv⟩) (by rw [hfl, List.length_cons]; omega) (by simp) (by have := X0.size; omega) (htab.ext X0)
  rw [hfl] at C
  have HE := Lib.hid (show leafH s.data.toList = shaB (0 :: s.data.toList) from rfl)
  have HX := Lib.hid X0
  have HQ := Lib.hid hq
  have HSL := Lib.hid (hash_size32 (shaB (0 :: s.data.toList)) (shaB_len _))
  have H1 := Lib.hid (u8_ones (shaB (0 :: s.data.toList)))
  have HLL := Lib.hid (show zero32.toList.length = ((shaB (0 :: s.data.toList)).map u8v).length by simp [shaB_len])
  clear X0 hp hfl hsz htab hq
  go_enter Tryz.func37, Tryz.ntmps37
  go_wp2_with fail
  refine C.mono ?_
  rintro e w5 ⟨rfl, hx5⟩
  have HQ5 := Lib.hid (Ext.blk hx5 HQ.out)
  have HX5 := Lib.hid (HX.out.trans hx5)
  clear hx5 C
  go_wp2_with (refine store_whole rfl 30 _ _ rfl w.heap.size rfl ((shaB (0 :: s.data.toList)).map u8v) rfl HSL.out _ _ HQ5.out HLL.out H1.out ?_)
  have hsz : (Tryz.prog.info? 30).map (·.size) = some ((shaB (0 :: s.data.toList)).map u8v).toArray.size := by rw [HSL.out]; simp
  exact bodyPost_ret (v := .agg ((shaB (0 :: s.data.toList)).map u8v).toArray) (results_cell_row rfl _ _ w.heap.size 30 _ (0, 0) _ rfl (blk_setRow HQ5.out _) Tryz.underlying30 rfl hsz) rfl ⟨by rw [HE.out], Upd.setRow HX5.out (.inl (Nat.le_refl _)) _⟩
set_option maxRecDepth 20000 in
set_option maxHeartbeats 4000000 in
theorem empty_h (w : World) (hG : 21 < w.heap.size) (htab : ShaTab w) :
    Calls Tryz.prog 35 #[] w fun e w' => e = .returned (hashV emptyH) ∧ Ext w w' := by
  have X0 := (Upd.refl none' w).alloc (.cells zero32 30)
  have hq := blk_alloc w (.cells zero32 30)
  have C := ssum_any (w.alloc (.cells zero32 30)) none [] 0 (.inl rfl) (CellsAt.nil _ _) (by simp [flatS]) (by simp) (by have := X0.size; omega) (htab.ext X0)
  have HE := Lib.hid (show emptyH = shaB (flatS []) from rfl)
  have HX := Lib.hid X0
  have HQ := Lib.hid hq
  have HSL := Lib.hid (hash_size32 (shaB (flatS [])) (shaB_len _))
  have H1 := Lib.hid (u8_ones (shaB (flatS [])))
  have HLL := Lib.hid (show zero32.toList.length = ((shaB (flatS [])).map u8v).length by simp [shaB_len])
  generalize shaB (flatS []) = hv at *
  clear X0 htab hq
  go_enter Tryz.func35, Tryz.ntmps35
  go_wp2_with fail
  refine C.mono ?_
  rintro e w5 ⟨rfl, hx5⟩
  have HQ5 := Lib.hid (Ext.blk hx5 HQ.out)
  have HX5 := Lib.hid (HX.out.trans hx5)
  clear hx5 C
  go_wp2_with (refine store_whole rfl 30 _ _ rfl w.heap.size rfl (hv.map u8v) rfl HSL.out _ _ HQ5.out HLL.out H1.out ?_)
  have hsz : (Tryz.prog.info? 30).map (·.size) = some (hv.map u8v).toArray.size := by rw [HSL.out]; simp
  exact bodyPost_ret (v := .agg (hv.map u8v).toArray) (results_cell_row rfl _ _ w.heap.size 30 _ (0, 0) _ rfl (blk_setRow HQ5.out _) Tryz.underlying30 rfl hsz) rfl ⟨by rw [HE.out], Upd.setRow HX5.out (.inl (Nat.le_refl _)) _⟩
theorem run_str_blk {w : World} {g : Nat} {xs : List UInt8} {t : TypeId} {f : Nat × Nat} (n : Nat) (hn : xs.length = n) (h : w.heap[g]? = some (.cells (xs.map u8v).toArray t f)) :
    (convert 165 9 (.slice (some ⟨g, 0, none⟩) n n)).run Tryz.prog w = .ok (.string (str xs)) w := by
  have e := run_convert_bytes_arg (P := Tryz.prog) w 165 5 Tryz.underlying165 Tryz.underlying5 g 0 n n (xs.map fun c => (c.toNat : Int)) (by simpa using hn) (fun i hi => by
    rw [Nat.zero_add, cell_of_blk h]
    simp [show i < xs.length by omega]) 9 Tryz.underlying9
  rw [e, strOfNums_str]
set_option maxRecDepth 20000 in
set_option maxHeartbeats 4000000 in
theorem node_h (w : World) (a b : List UInt8) (ha : a.length = 32) (hb : b.length = 32) (hG : 21 < w.heap.size) (htab : ShaTab w) :
    Calls Tryz.prog 36 #[hashV a, hashV b] w fun e w' => e = .returned (hashV (nodeH a b)) ∧ Ext w w' := by
  have X0 := (((Upd.refl none' w).alloc (.cells (a.map u8v).toArray 30)).alloc (.cells (b.map u8v).toArray 30)).alloc (.cells zero32 30)
  have hA := blk_alloc_lt (blk_alloc_lt (blk_alloc w (.cells (a.map u8v).toArray 30)) (.cells (b.map u8v).toArray 30)) (.cells zero32 30)
  have hB := blk_alloc_lt (blk_alloc (w.alloc (.cells (a.map u8v).toArray 30)) (.cells (b.map u8v).toArray 30)) (.cells zero32 30)
  have hQ := blk_alloc ((w.alloc (.cells (a.map u8v).toArray 30)).alloc (.cells (b.map u8v).toArray 30)) (.cells zero32 30)
  rw [World.size_alloc] at hB
  rw [World.size_alloc, World.size_alloc] at hQ
  have HX := Lib.hid X0
  have HQ := Lib.hid hQ
  have HA := Lib.hid hA
  have HB := Lib.hid hB
  have HLA := Lib.hid ha
  have HLB := Lib.hid hb
  have HG := Lib.hid hG
  have HT := Lib.hid htab
  clear X0 hA hB hQ ha hb hG htab
  go_enter Tryz.func36, Tryz.ntmps36
  go_wp2_with fail
  generalize World.alloc _ (.cells zero32 30) = W at *
  have hc1 := run_str_blk (w := W.drew) 32 HLA.out HA.out
  have hc2 := run_str_blk (w := W.drew) 32 HLB.out HB.out
  have hp := blk_alloc W.drew (.cells #[.string ⟨#[1]⟩, .string (str a), .string (str b)] 9)
  have X1 := ((Upd.refl none' W).drew).alloc (.cells #[.string ⟨#[1]⟩, .string (str a), .string (str b)] 9)
  have hfl : flatS [⟨#[1]⟩, str a, str b] = 1 :: (a ++ b) := by simp [flatS]
  have C := ssum_any (W.drew.alloc (.cells #[.string ⟨#[1]⟩, .string (str a), .string (str b)] 9)) (some ⟨W.heap.size, 0, none⟩) [⟨#[1]⟩, str a, str b] 3 (.inr ⟨_, _, rfl⟩) (fun j v hv => ⟨_, rfl, by rw [Addr.add_lit]; exact (cell_of_blk hp _).trans (by simpa using hv)⟩) (by rw [hfl]; simp [HLA.out, HLB.out]) (by simp) (by have := HX.out.size; have := X1.size; have := HG.out; omega) ((HT.out.ext HX.out).ext X1)
  rw [hfl] at C
  have HE := Lib.hid (show nodeH a b = shaB (1 :: (a ++ b)) from rfl)
  have HX1 := Lib.hid X1
  have HSL := Lib.hid (hash_size32 (shaB (1 :: (a ++ b))) (shaB_len _))
  have H1 := Lib.hid (u8_ones (shaB (1 :: (a ++ b))))
  have HLL := Lib.hid (show zero32.toList.length = ((shaB (1 :: (a ++ b))).map u8v).length by simp [shaB_len])
  clear hp X1 hfl
  go_still_tail 4, (by kernel_rfl)
  go_wp2_with fail
  refine C.mono ?_
  rintro e w5 ⟨rfl, hx5⟩
  have HQ5 := Lib.hid (Ext.blk hx5 (Ext.blk HX1.out HQ.out))
  have HX5 := Lib.hid ((HX.out.trans HX1.out).trans hx5)
  clear hx5 C hc1 hc2
  go_wp2_with (refine store_whole rfl 30 _ _ rfl (w.heap.size + 1 + 1) rfl ((shaB (1 :: (a ++ b))).map u8v) rfl HSL.out _ _ HQ5.out HLL.out H1.out ?_)
  have hsz : (Tryz.prog.info? 30).map (·.size) = some ((shaB (1 :: (a ++ b))).map u8v).toArray.size := by rw [HSL.out]; simp
  exact bodyPost_ret (v := .agg ((shaB (1 :: (a ++ b))).map u8v).toArray) (results_cell_row rfl _ _ (w.heap.size + 1 + 1) 30 _ (0, 0) _ rfl (blk_setRow HQ5.out _) Tryz.underlying30 rfl hsz) rfl ⟨by rw [HE.out], Upd.setRow HX5.out (.inl (by omega)) _⟩

section
variable {P : Program}
theorem any_of_inv {l : List Oper} {n : Nat} {C : World → Prop} {Qh : Act → Prop} {Q : Exit → Act → World → Prop} (hln : l.length = n + 1) (hb : backB (l.take n) = true) (hg : guardB (l.take n) = true) (ht : tailB l n = true)
    (hQ : ∀ listed a w, C w → Qh a → listed.size = l.length → (∀ i, i < n → listed.getD i false = true) → listed.getD n false = false → wpAny P .any l.toArray Q 1 listed a w) :
    ∀ (c : Nat) (listed : Array Bool) (a : Act) (w : World), C w → listed.size = l.length → listed.getD n false = false → (∀ i o, l[i]? = some o → listed.getD i false = true → ∀ j ∈ afterOn o, listed.getD j false = true) →
      (List.range n).countP (fun i => !listed.getD i true) = c → anyInv P .any (l.take n).toArray C Qh c ((listed.toList.take n).toArray) a → wpAny P .any l.toArray Q (c + 1) listed a w := by
  have htl : (l.take n).length = n := by rw [List.length_take]; omega
  have hts : ∀ listed : Array Bool, listed.size = l.length → ((listed.toList.take n).toArray).size = (l.take n).length := fun listed h => by
    rw [htl]; simp; omega
  intro c
  induction c with
  | zero =>
    intro listed a w hC hs hlo hdc hc h
    rw [Nat.zero_add]
    refine hQ listed a w hC h.2 hs (fun i hi => ?_) hlo
    have := all_listed (hts listed hs) hb h.1 i (by omega)
    rwa [take_getD _ _ _ _ hi] at this
  | succ c ih =>
    intro listed a w hC hs hlo hdc hc h
    have hex : ∃ i, i < n ∧ listed.getD i true = false := by
      have : 0 < (List.range n).countP (fun i => !listed.getD i true) := by omega
      obtain ⟨i, hi, h1⟩ := List.countP_pos_iff.1 this
      exact ⟨i, List.mem_range.1 hi, by simpa using h1⟩
    have hlow := tail_low (by omega) ht hs hdc hex
    have hready : ∀ i, i ∈ Region.ready .any l.toArray listed → i ∈ Region.ready .any (l.take n).toArray ((listed.toList.take n).toArray) := fun i hi => by
      have hin := hlow i hi
      obtain ⟨h1, o, h2, h3⟩ := mem_ready.1 hi
      refine mem_ready.2 ⟨by rw [take_getD _ _ _ _ hin]; exact h1, o, by simpa [List.getElem?_take, hin] using h2, fun e he hbi => ?_⟩
      have hoi : (l.take n)[i]? = some o := by rw [List.getElem?_take, if_pos hin]; simpa using h2
      have hb1 := List.all_eq_true.1 hb i (List.mem_range.2 (by omega))
      simp only [hoi] at hb1
      have hb2 := List.all_eq_true.1 hb1 e.on (List.mem_map.2 ⟨e, List.mem_filter.2 ⟨by simpa using he, hbi⟩, rfl⟩)
      simp only [decide_eq_true_eq] at hb2
      rw [take_getD _ _ _ _ (by omega)]
      exact h3 e he hbi
    rw [show c + 1 + 1 = (c + 1) + 1 by omega]
    refine ⟨fun hr => ?_, fun i hi => ?_⟩
    · exfalso
      have hr2 : Region.ready .any (l.take n).toArray ((listed.toList.take n).toArray) = [] := by
        apply Classical.byContradiction
        intro hne
        obtain ⟨i, t, hit⟩ := List.exists_cons_of_ne_nil hne
        have hi : i ∈ Region.ready .any (l.take n).toArray ((listed.toList.take n).toArray) := by rw [hit]; simp
        obtain ⟨h1, o, h2, h3⟩ := mem_ready.1 hi
        have hin : i < n := by
          have := (List.getElem?_eq_some_iff.1 (show (l.take n)[i]? = some o by simpa using h2)).1
          omega
        have hoi : (l.take n)[i]? = some o := by simpa using h2
        have : i ∈ Region.ready .any l.toArray listed := mem_ready.2 ⟨by rw [take_getD _ _ _ _ hin] at h1; exact h1, o, by rw [List.getElem?_take, if_pos hin] at hoi; simpa using hoi, fun e he hbi => by
          have hb1 := List.all_eq_true.1 hb i (List.mem_range.2 (by omega))
          simp only [hoi] at hb1
          have hb2 := List.all_eq_true.1 hb1 e.on (List.mem_map.2 ⟨e, List.mem_filter.2 ⟨by simpa using he, hbi⟩, rfl⟩)
          simp only [decide_eq_true_eq] at hb2
          have := h3 e he hbi
          rwa [take_getD _ _ _ _ (by omega)] at this⟩
        rw [hr] at this
        cases this
      obtain ⟨j, hj, hjf⟩ := hex
      have := all_listed (hts listed hs) hb hr2 j (by omega)
      rw [take_getD _ _ _ _ hj] at this
      have hs2 : j < listed.size := by omega
      simp [hs2] at this hjf
      rw [hjf] at this
      cases this
    · have hin := hlow i hi
      have hq := h.2 i (hready i hi)
      obtain ⟨h1, o, h2, h3⟩ := mem_ready.1 hi
      have hil : l[i]? = some o := by simpa using h2
      have hit : (l.take n)[i]? = some o := by rw [List.getElem?_take, if_pos hin]; exact hil
      have hlt : i < l.length := by omega
      have hs1 : i < listed.size := by omega
      have hnext : ∀ a' w', C w' → anyInv P .any (l.take n).toArray C Qh c (((listed.toList.take n).toArray).setIfInBounds i true) a' → wpAny P .any l.toArray Q (c + 1) (listed.setIfInBounds i true) a' w' := fun a' w' hC' h' => by
        refine ih _ _ _ hC' (by simpa using hs) (by rw [getD_set_ne false (by omega)]; exact hlo) (fun k ok hk hl j hj => ?_) ?_ (by rw [take_set]; exact h')
        · rw [getD_set _ _ _ hs1] at hl ⊢
          split
          · rfl
          · split at hl
            · rename_i e
              subst e
              rw [hil] at hk
              cases hk
              obtain ⟨e, he, rfl⟩ := List.mem_map.1 hj
              obtain ⟨he1, he2⟩ := List.mem_filter.1 he
              exact h3 e (by simpa using he1) he2
            · exact hdc k ok hk hl j hj
        · have hsep : ∀ (L : List Nat), L.Nodup → i ∈ L → L.countP (fun j => !listed.getD j true) = L.countP (fun j => !(listed.setIfInBounds i true).getD j true) + 1 := by
            intro L hnd hmem
            induction L with
            | nil => cases hmem
            | cons x L ihL =>
              obtain ⟨hx, hnd2⟩ := List.nodup_cons.1 hnd
              rw [List.countP_cons, List.countP_cons]
              by_cases hxi : x = i
              · subst hxi
                have hh : listed.getD x true = false := by simpa using h1
                have h2' : (listed.setIfInBounds x true).getD x true = true := by simp [hs1]
                have hrest : L.countP (fun j => !listed.getD j true) = L.countP (fun j => !(listed.setIfInBounds x true).getD j true) := by
                  apply List.countP_congr
                  intro j hj
                  rw [getD_set_ne true (show x ≠ j from fun e => hx (e ▸ hj))]
                rw [hrest, hh, h2']; simp
              · have hmem2 : i ∈ L := by rcases List.mem_cons.1 hmem with e | e; exact absurd e.symm hxi; exact e
                rw [ihL hnd2 hmem2, getD_set_ne true (show i ≠ x from fun e => hxi e.symm)]
                omega
          have := hsep (List.range n) List.nodup_range (List.mem_range.2 hin)
          omega
      obtain ⟨o', v, ho', hy, hk⟩ := hq
      have ho2 : (l.take n)[i]? = some o' := by simpa using ho'
      obtain rfl : o' = o := Option.some.inj (ho2.symm.trans hit)
      have hy2 : InvYields P l.toArray C o' v a := by
        unfold InvYields at hy ⊢
        rw [wanted_take (by omega) hg (List.mem_of_getElem? hit)] at hy
        exact hy
      exact hy2.wp h2 hC (fun w' hw' => hnext _ w' hw' hk)
/-- The region: n operations that keep a law on worlds, and a last one. -/
theorem region_inv_tail {id : Nat} {Q : Exit → Act → World → Prop} {a : Act} {w : World} {l : List Oper} (n : Nat) (C : World → Prop) (hmix : P.follows .mixedOrders = true) (hln : (l.length == n + 1) = true) (hB : Region.lexB .any (l.take n).toArray = true)
    (hb : backB l = true) (hg : guardB (l.take n) = true) (ht : tailB l n = true) (hC : C w.drew)
    (h : wpInv P (l.take n).toArray C (fun a' => ∀ w', C w' → wpList P l.toArray Q (l.drop n) a' w') (l.take n) a) : (Code.region id l.toArray true).wp P Q a w := by
  have hln : l.length = n + 1 := by simpa using hln
  have htl : (l.take n).length = n := by rw [List.length_take]; omega
  have hb' : backB (l.take n) = true := by
    refine List.all_eq_true.2 (fun i hi => ?_)
    have hin : i < n := by have := List.mem_range.1 hi; omega
    have := List.all_eq_true.1 hb i (List.mem_range.2 (by omega))
    rw [List.getElem?_take, if_pos hin]
    exact this
  simp only [Region.lexB, Bool.and_eq_true] at hB
  have hq := anyInv_lex (md := .any) hB.1 (l.take n) 0 (Array.replicate n false) a (by simp) (by have := hB.2; simpa [htl, hln] using this) h
  refine wp_region_any hmix ?_
  have rep : ∀ i, (Array.replicate l.toArray.size false).getD i false = false := fun i => by rw [Array.getD_eq_getD_getElem?, Array.getElem?_replicate]; split <;> rfl
  have main := any_of_inv (P := P) (C := C) (Qh := fun a' => ∀ w', C w' → wpList P l.toArray Q (l.drop n) a' w') (Q := Q) hln hb' hg ht ?_ n (Array.replicate l.toArray.size false) a w.drew hC (by simp) (rep n) (fun i o _ hl => by rw [rep] at hl; cases hl) ?_ ?_
  · rw [show n + 1 = l.toArray.size by simp; omega] at main
    exact main
  · intro listed a' w' hC' hk hs hall hlo
    have hon : l[n]? = some (l[n]'(by omega)) := List.getElem?_eq_getElem (by omega)
    have hdrop : l.drop n = [l[n]'(by omega)] := by
      rw [List.drop_eq_getElem_cons (by omega), List.drop_of_length_le (by omega)]
    have hk2 := hk w' hC'
    rw [hdrop] at hk2
    clear hk
    generalize l[n]'(by omega) = o at hon hk2 hdrop
    have hns : n < listed.size := by omega
    have hmem : n ∈ Region.ready .any l.toArray listed := mem_ready.2 ⟨by simp [hns] at hlo ⊢; exact hlo, o, by simpa using hon, fun e he hbi => by
      have hb1 := List.all_eq_true.1 hb n (List.mem_range.2 (by omega))
      simp only [hon] at hb1
      have hb2 := List.all_eq_true.1 hb1 e.on (List.mem_map.2 ⟨e, List.mem_filter.2 ⟨by simpa using he, hbi⟩, rfl⟩)
      simp only [decide_eq_true_eq] at hb2
      exact hall e.on hb2⟩
    have honly : ∀ i, i ∈ Region.ready .any l.toArray listed → i = n := fun i hi => by
      obtain ⟨h1, o', h2, h3⟩ := mem_ready.1 hi
      have hlt : i < l.length := (List.getElem?_eq_some_iff.1 (show l[i]? = some o' by simpa using h2)).1
      rcases Nat.lt_or_ge i n with h4 | h4
      · have := hall i h4
        have hs1 : i < listed.size := by omega
        simp [hs1] at this h1
        rw [h1] at this
        cases this
      · omega
    have hend : Region.ready .any l.toArray (listed.setIfInBounds n true) = [] := by
      apply Classical.byContradiction
      intro hne
      obtain ⟨i, t, hit⟩ := List.exists_cons_of_ne_nil hne
      have hi : i ∈ Region.ready .any l.toArray (listed.setIfInBounds n true) := by rw [hit]; simp
      obtain ⟨h1, o', h2, _⟩ := mem_ready.1 hi
      have hlt : i < l.length := (List.getElem?_eq_some_iff.1 (show l[i]? = some o' by simpa using h2)).1
      by_cases hni : n = i
      · subst hni
        simp [hns] at h1
      · rw [getD_set_ne true hni] at h1
        have := hall i (by omega)
        have hs1 : i < listed.size := by omega
        simp [hs1] at this h1
        rw [h1] at this
        cases this
    refine ⟨fun hr => (by rw [hr] at hmem; cases hmem), fun i hi => ?_⟩
    obtain rfl := honly i hi
    unfold wpList at hk2
    unfold wpOp
    simp only [List.getElem?_toArray, hon]
    split
    · rename_i hw
      rw [if_pos hw] at hk2
      exact hk2.imp (Oper.wp_mono (fun a w h => ⟨hend, h⟩)) (fun h => h)
    · rename_i hw
      rw [if_neg hw] at hk2
      exact ⟨hend, hk2⟩
  · have : ∀ i ∈ List.range n, (!(Array.replicate l.toArray.size false).getD i true) = true := fun i hi => by
      have hin := List.mem_range.1 hi
      rw [Array.getD_eq_getD_getElem?, Array.getElem?_replicate, if_pos (by simp; omega)]; rfl
    rw [List.countP_eq_length.2 this, List.length_range]
  · have e : (((Array.replicate l.toArray.size false).toList.take n).toArray) = Array.replicate n false := by
      simp [List.take_replicate, hln]
    rw [e, ← htl]
    rw [htl]
    rw [htl] at hq
    exact hq
end
section
variable {P : Program} {ops : Array Oper} {I : World → Prop} {Q : Act → Prop} {o : Oper} {rest : List Oper} {a : Act}
theorem inv_addStr {x y : Operand} {ty tr : TypeId} (hw : Region.wanted o (yielded ops a.tmps) = true) (ho : o.op = .binOp .add ty x y tr) (s t : ByteArray) (hx : a.eval x = .string s) (hy : a.eval y = .string t) (hl : s.size + t.size ≤ 9223372036854775807)
    (h : wpInv P ops I Q rest (a.put o.dst (.string (s ++ t)))) : wpInv P ops I Q (o :: rest) a := by
  refine inv_pure hw (fun w => ?_) h
  simp [execOp, ho, hx, hy, eqGuard, binOp_string_add, run_string_add_sum w s t hl]
theorem inv_nil (h : Q a) : wpInv P ops I Q [] a := h
end
end Go.Proofs.YtnkcfkjeeennmaaGreatDoor
