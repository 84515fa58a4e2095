/- Plain: a store whose reads fail as told; the writes that are kept. -/
import Derived.Test.YtdkhnkhflbefbaaDoorCrash
import Derived.Test.YtdkhnkhflbefbaaDoorBuildOne
namespace Go.Proofs.YtdkhnkhflbefbaaDoor
open Go.RowKit Go.Lib Go.Sort

/-- Of the first k writes those whose names may be. -/
def keptL (ws : TxtL) (k : Nat) : TxtL := (ws.take k).filter fun p => nameOk p.1
def putAll (L : TxtL) : TxtL := putN L L.length
theorem putN_pre (L : TxtL) (p : ByteArray × ByteArray) : ∀ n, n ≤ L.length → putN (L ++ [p]) n = putN L n
  | 0, _ => rfl
  | n + 1, h => by
    have ih := putN_pre L p n (by omega)
    rw [putN_succ (L ++ [p]) n (by simp; omega), putN_succ L n h, ih, List.getElem_append_left (by omega)]
theorem putAll_snoc (L : TxtL) (p : ByteArray × ByteArray) : putAll (L ++ [p]) = putL (putAll L) p.1 p.2 := by
  unfold putAll
  rw [List.length_append, List.length_singleton, putN_succ _ _ (by simp), putN_pre L p _ (Nat.le_refl _)]
  simp
theorem keptL_len (ws : TxtL) (k : Nat) : (keptL ws k).length ≤ k := by
  unfold keptL
  have := List.length_filter_le (fun p : ByteArray × ByteArray => nameOk p.1) (ws.take k)
  have := List.length_take_le k ws
  omega
theorem kept_yes (ws : TxtL) (k : Nat) (h : k < ws.length) (hn : nameOk ws[k].1 = true) : keptL ws (k + 1) = keptL ws k ++ [ws[k]] := by
  unfold keptL
  rw [List.take_succ_eq_append_getElem h, List.filter_append, List.filter_cons_of_pos (by simpa using hn)]; rfl
theorem kept_no (ws : TxtL) (k : Nat) (h : k < ws.length) (hn : nameOk ws[k].1 = false) : keptL ws (k + 1) = keptL ws k := by
  unfold keptL
  rw [List.take_succ_eq_append_getElem h, List.filter_append, List.filter_cons_of_neg (by simp [hn]), List.filter_nil, List.append_nil]
theorem kept_mem {ws : TxtL} {k : Nat} {p : ByteArray × ByteArray} (h : p ∈ keptL ws k) : p ∈ ws := List.mem_of_mem_take (List.mem_filter.1 h).1
/-- The store behind those writes and so many reads. -/
def flSt (rs : List Int) (L : TxtL) (n : Nat) : StD := ⟨putAll L, rs, 0, n, L.length, false⟩
theorem fl_put_no (rs : List Int) (L : TxtL) (n : Nat) (s t : ByteArray) (hn : nameOk s = false) : (flSt rs L n).put s t = (flSt rs L n, some (2, none)) := by
  unfold StD.put StD.refuse
  rw [hn]; rfl
theorem fl_put_yes (rs : List Int) (L : TxtL) (n : Nat) (p : ByteArray × ByteArray) (hn : nameOk p.1 = true) : (flSt rs L n).put p.1 p.2 = (flSt rs (L ++ [p]) n, none) := by
  unfold StD.put
  rw [refuse_ok hn rfl]
  simp only
  rw [if_neg (by show ¬ (0 : Int) = (L.length : Int) + 1; omega), if_neg (by show ¬ (0 : Int) = -((L.length : Int) + 1); omega)]
  unfold flSt
  rw [putAll_snoc]
  simp
theorem fl_get_no (rs : List Int) (L : TxtL) (n : Nat) (s : ByteArray) (hn : nameOk s = false) : (flSt rs L n).get s = (flSt rs L n, ⟨#[]⟩, some (2, none)) := by
  unfold StD.get StD.refuse
  rw [hn]; rfl
theorem fl_get_fail (rs : List Int) (L : TxtL) (n : Nat) (s : ByteArray) (hn : nameOk s = true) (h : ((n : Int) + 1) ∈ rs) : (flSt rs L n).get s = (flSt rs L (n + 1), ⟨#[]⟩, some (7, none)) := by
  unfold StD.get
  rw [refuse_ok hn rfl]
  simp only
  rw [if_pos (show ((flSt rs L n).nr : Int) + 1 ∈ (flSt rs L n).rs from h)]; rfl
theorem fl_get_yes (rs : List Int) (L : TxtL) (n : Nat) (s : ByteArray) (hn : nameOk s = true) (h : ¬ ((n : Int) + 1) ∈ rs) (r : Option ByteArray) (hr : lieN L L.length s = r) : (flSt rs L n).get s = (flSt rs L (n + 1), r.getD ⟨#[]⟩, if r.isSome then none else some (6, none)) := by
  unfold StD.get
  rw [refuse_ok hn rfl]
  simp only
  rw [if_neg (show ¬ ((flSt rs L n).nr : Int) + 1 ∈ (flSt rs L n).rs from h)]
  have e : lookL (putAll L) s = r := by unfold putAll; rw [lie_put]; exact hr
  show (_, (lookL (putAll L) s).getD _, if (lookL (putAll L) s).isSome then none else _) = _
  rw [e]; rfl
/-- The read ahead of the k-th. -/
def lastR (zs : List Int) (k : Nat) : Int := if k = 0 then 0 else zs.getD (k - 1) 0
theorem lastR_zero (zs : List Int) : lastR zs 0 = 0 := rfl
theorem lastR_succ (zs : List Int) (k : Nat) (h : k < zs.length) : lastR zs (k + 1) = zs[k] := by
  unfold lastR
  rw [if_neg (by omega)]
  simp [h]
/-- The reads' loop: so far they rise. -/
def RiseRel (zs : List Int) (w : World) (iv : Value) (wr : World) : Prop := ∃ k : Nat, iv = .int .i64 k ∧ k ≤ zs.length ∧ 0 ≤ lastR zs k ∧ mayFrom (lastR zs k) (zs.drop k) = mayR zs ∧ Ext w wr
theorem rise_no {zs : List Int} {k : Nat} (h : k < zs.length) (hm : mayFrom (lastR zs k) (zs.drop k) = mayR zs) (hle : zs[k] ≤ lastR zs k) : mayR zs = false := by
  rw [← hm, mayFrom_drop _ _ _ h, if_pos hle]
theorem rise_yes {zs : List Int} {k : Nat} (h : k < zs.length) (hm : mayFrom (lastR zs k) (zs.drop k) = mayR zs) (hle : ¬ zs[k] ≤ lastR zs k) : mayFrom (lastR zs (k + 1)) (zs.drop (k + 1)) = mayR zs := by
  rw [← hm, mayFrom_drop _ _ _ h, if_neg hle, lastR_succ zs k h]
theorem rise_all {zs : List Int} {l : Int} (hm : mayFrom l (zs.drop zs.length) = mayR zs) : mayR zs = true := by
  rw [← hm, List.drop_length]; rfl
/-- The cells of writes. -/
def wrCells (L : TxtL) : List Value := L.flatMap fun p => [.string p.1, .string p.2]
theorem wrCells_snoc (L : TxtL) (p : ByteArray × ByteArray) : wrCells (L ++ [p]) = wrCells L ++ [.string p.1, .string p.2] := by simp [wrCells]
theorem wrCells_at : ∀ (L : TxtL) (i : Nat) (p : ByteArray × ByteArray), L[i]? = some p → (wrCells L)[i * 2]? = some (.string p.1) ∧ (wrCells L)[i * 2 + 1]? = some (.string p.2)
  | [], i, p, h => by cases h
  | q :: L, 0, p, h => by
    obtain rfl := Option.some.inj h
    exact ⟨rfl, rfl⟩
  | q :: L, i + 1, p, h => by
    have ih := wrCells_at L i p h
    have e : wrCells (q :: L) = .string q.1 :: .string q.2 :: wrCells L := rfl
    rw [e, show (i + 1) * 2 = i * 2 + 1 + 1 by omega]
    exact ih
theorem wrs_of_own {w : World} {B : Nat} {v : Value} {L : TxtL} (h : w.ownsRow B 49 2 v L.length (wrCells L)) : ∃ a cap, v = .slice a L.length cap ∧ WrsAt w a L := by
  rcases h.2 with ⟨rfl, h0⟩ | ⟨g, cap, cur, rfl, _⟩
  · rw [h0]
    obtain rfl : L = [] := List.length_eq_zero_iff.1 h0
    exact ⟨none, 0, rfl, fun i p hp => by cases hp⟩
  · refine ⟨some ⟨g, 0, none⟩, cap, rfl, fun i p hp => ?_⟩
    obtain ⟨c0, c1⟩ := wrCells_at L i p hp
    have ea : ∀ j, (⟨g, 0, none⟩ : Addr).add j = ⟨g, 0 + j, none⟩ := fun j => by unfold Addr.add; split <;> simp_all
    have h0 := h.cells (g := g) rfl _ _ c0
    have h1 := h.cells (g := g) rfl _ _ c1
    rw [ea] at h0 h1
    exact ⟨g, 0, rfl, h0, h1⟩
theorem wrs_of_own2 {w : World} {B : Nat} {ka : Option Addr} {kc : Nat} {L : TxtL} (h : w.ownsRow B 49 2 (.slice ka L.length kc) L.length (wrCells L)) : WrsAt w ka L := by
  obtain ⟨a, c, e, hw⟩ := wrs_of_own h
  simp only [Value.slice.injEq, true_and] at e
  rw [e.1]; exact hw
theorem row_type {w : World} {B e size n : Nat} {v : Value} {xs : List Value} (h : w.ownsRow B e size v n xs) {g : Nat} (hg : v.ownBlock = some g) : ∃ c, w.heap[g]? = some (.cells c e (0, 0)) := by
  rcases h.2 with ⟨rfl, _⟩ | ⟨g', cap, cur, rfl, _, hb, _⟩
  · cases hg
  · obtain rfl : g' = g := by simpa [Value.ownBlock] using hg
    exact ⟨_, hb⟩
/-- A row of writes is none of the store's. -/
theorem StAt.apartW {w : World} {b mb : Nat} {tv : Value} {x : StD} (H : StAt w b mb tv x) {B n : Nat} {v : Value} {xs : List Value} (h : w.ownsRow B 49 2 v n xs) {g : Nat} (hg : v.ownBlock = some g) : g ≠ b ∧ g ≠ mb ∧ tv.ownBlock ≠ some g := by
  obtain ⟨c, hb⟩ := row_type h hg
  refine ⟨fun e => ?_, fun e => ?_, fun e => ?_⟩
  · rw [e, H.blk] at hb; cases hb
  · obtain ⟨es, cl, hm⟩ := H.tex.blk
    rw [e, hm] at hb; cases hb
  · obtain ⟨c2, hb2⟩ := row_type H.row e
    rw [hb] at hb2
    simp only [Option.some.injEq, Obj.cells.injEq] at hb2
    exact absurd hb2.2.1 (by decide)
theorem info_write : (Tryd.prog.info? 49).map (fun i => (i.zero, i.size, i.bytes)) = some (some (.agg #[.string ⟨#[]⟩, .string ⟨#[]⟩]), 2, 32) := by kernel_rfl
theorem write_new (w : World) (s t : ByteArray) (j : Nat) (u : Value) (hu : ([.string s, .string t] : List Value)[j]? = some u) : ((w.alloc (.cells #[.string s, .string t] 49)).drew).cell? ((⟨w.heap.size, 0, none⟩ : Addr).add j) = some u := by
  have ea : (⟨w.heap.size, 0, none⟩ : Addr).add j = ⟨w.heap.size, 0 + j, none⟩ := by unfold Addr.add; split <;> simp_all
  rw [ea]
  show (w.alloc (.cells #[.string s, .string t] 49)).cell? _ = _
  rw [cell_of_blk (blk_alloc w _)]
  simpa using hu
theorem write_ones (s t : ByteArray) : ∀ u ∈ ([.string s, .string t] : List Value), u.oneCell' = true := fun u hu => by
  rcases List.mem_cons.1 hu with rfl | hu
  · rfl
  · rw [List.mem_singleton.1 hu]; rfl
/-- The loop of the writes. -/
def FlRel (ws : TxtL) (rs : List Int) (b mb : Nat) (tv : Value) (w : World) (kv iv : Value) (wr : World) : Prop :=
  ∃ k : Nat, iv = .int .i64 k ∧ k ≤ ws.length ∧ wr.ownsRow w.heap.size 49 2 kv (keptL ws k).length (wrCells (keptL ws k)) ∧ StAt wr b mb tv (flSt rs (keptL ws k) 0) ∧ Ext w wr
/-- The loop of the asked. -/
def FaRel (L : TxtL) (rs : List Int) (m b mb : Nat) (tv : Value) (W : World) (nv iv : Value) (wr : World) : Prop :=
  ∃ k n : Nat, iv = .int .i64 k ∧ nv = .int .i64 n ∧ k ≤ m ∧ n ≤ k ∧ StAt wr b mb tv (flSt rs L n) ∧ Upd (one b) W wr
/-- The loop of the reads that fail. -/
def FhRel (rs : List Int) (n : Int) (w : World) (fv jv : Value) (wr : World) : Prop :=
  ∃ (j : Nat) (c : Bool), jv = .int .i64 j ∧ fv = .bool c ∧ decide (n ∈ rs.take j) = c ∧ j ≤ rs.length ∧ Ext w wr
theorem take_has (rs : List Int) (n : Int) (j : Nat) (h : j < rs.length) : decide (n ∈ rs.take (j + 1)) = (decide (n ∈ rs.take j) || (rs[j] == n)) := by
  rw [Bool.eq_iff_iff, List.take_succ_eq_append_getElem h]
  simp only [List.mem_append, List.mem_singleton, decide_eq_true_eq, Bool.or_eq_true, beq_iff_eq]
  exact ⟨fun e => e.imp id Eq.symm, fun e => e.imp id Eq.symm⟩
end Go.Proofs.YtdkhnkhflbefbaaDoor
