/- What the wire rows' cell 'laid' gives: the sentinels, the handle, the table of asks. A world for the witnesses. What the cell 'laid' of a wire row gives that reaches strconv.Itoa too: besides the sentinels, the handle and the table of asks, the powers of ten. A world for the witnesses. -/
import Derived.Test.YtljnhelnmnomoaaGreatDoorLaid
import Derived.Test.YtljnhelnmnomoaaGreatDoorOpenA
import Derived.Test.YtljnhelnmnomoaaGreatDoorAsk
import Derived.LaidSub
import Derived.Test.YtljnhelnmnomoaaGreatDoorWord
import Derived.Lib.LaidTab
namespace Go.Proofs.YtljnhelnmnomoaaGreatDoor
open Go.ChangeShapes Go.WideShapes Go.ChangeAt Go.RowKit Go.Lib Go.Deep


def numsData (l : List Nat) : DataW Unit := if l.length = 0 then .nil else .slice (l.map fun (i : Nat) => .lit (.int .i64 i)) []
def askData (k : Nat) : DataW Unit := .agg [.lit (.bool (askE k)), numsData (askN k), .lit (.bool (askL k))]
def asksD : String × DataW Unit := ("cartulary/wire.asks", .agg ((List.range 8).map askData))
/-- The list of the wire rows. -/
def laidW : List (String × DataW Unit) := handD :: (sentL.map sentD ++ [asksD])
theorem laidW_first : (laidW.filter fun x => x.1 != "cartulary/wire.asks") = laidL := by kernel_rfl
theorem laidW_last : (laidW.filter fun x => x.1 == "cartulary/wire.asks") = [asksD] := by kernel_rfl
theorem laidW_plain : (laidW.filter fun x => x.2.handleName?.isNone) = sentL.map sentD ++ [asksD] := by kernel_rfl
theorem asks_plain : (([asksD] : List (String × DataW Unit)).filter fun x => x.2.handleName?.isSome) = [] := by kernel_rfl
theorem cells_ask : Tryz.prog.cellsOf 83 = 3 := by kernel_rfl
theorem cells_asks : Tryz.prog.cellsOf 129 = 24 := by kernel_rfl
theorem cells_bool : Tryz.prog.cellsOf 4 = 1 := by kernel_rfl
theorem cells_sli : Tryz.prog.cellsOf 77 = 1 := by kernel_rfl
theorem asks_g : Tryz.prog.globalNamed "cartulary/wire.asks" = some 3 := by kernel_rfl
theorem asks_t : (Tryz.prog.globals[3]?).map (·.type) = some 129 := by kernel_rfl
section
variable {enc : TypeId × Value → Unit} {w : World} {sp : Nat → Bool} {hd : Bool}
set_option maxRecDepth 20000 in
theorem ints_open {fuel : Nat} {cs : List Value} {y : DataW Unit × List MemPlace} (l : List Nat) (h : DataW.trod enc Tryz.prog w 0 sp hd fuel 77 cs = some y) (hy : y.1 = numsData l) :
    ∃ (a : Option Addr) (cap : Nat), cs = [.slice a l.length cap] ∧ IntsAt w.heap.size w a l := by
  rcases open_slice Tryz.underlying77 h with ⟨h0, h1⟩ | ⟨a', len', cap', m, n, D, Pl, hcs, _, hl, hm, hmm, hx, hi⟩
  · rw [h1] at hy
    unfold numsData at hy
    split at hy
    · rename_i h2
      exact ⟨none, 0, by rw [h0, h2], fun j i hj => by rw [List.length_eq_zero_iff.1 h2] at hj; simp at hj⟩
    · cases hy
  · rw [hx] at hy
    unfold numsData at hy
    split at hy
    · cases hy
    · rename_i hne
      simp only [DataW.slice.injEq] at hy
      have hlen : len' = l.length := by have := congrArg List.length hy.1; simpa using this
      subst hlen
      refine ⟨some a', cap', hcs, fun j i hj => ?_⟩
      have hjl : j < l.length := (List.getElem?_eq_some_iff.1 hj).1
      obtain ⟨cs2, hc, ht⟩ := hi j (by rw [hmm]; split <;> omega)
      obtain ⟨k, e1, e2, _⟩ := DataW.trod_int Tryz.underlying3 ht
      have hD : D j = .lit (.int .i64 i) := by
        have := congrArg (·[j]?) hy.1
        have hjv : l[j] = i := (List.getElem?_eq_some_iff.1 hj).2
        simpa [hjl, hjv] using this
      simp only [Prod.mk.injEq] at e2
      rw [hD] at e2
      obtain rfl : (i : Int) = k := by have := e2.1; simpa using this
      rw [e1, cells_int] at hc
      obtain ⟨_, _, hc2⟩ := World.cells?_some hc
      have h0 := hc2 0 (by omega)
      simp only [List.getElem?_cons_zero] at h0
      have hlt := lt_of_cell h0
      obtain ⟨b, o, s⟩ := a'
      -- the first cell tells that the address is plain
      obtain ⟨cs0, hcc, ht0⟩ := hi 0 (by rw [hmm]; split <;> omega)
      obtain ⟨k0, e10, _, _⟩ := DataW.trod_int Tryz.underlying3 ht0
      rw [e10, cells_int] at hcc
      obtain ⟨_, _, hc20⟩ := World.cells?_some hcc
      have h00 := hc20 0 (by omega)
      have hsp : s = none := by
        simp only [Addr.add, Nat.zero_mul, if_true, List.getElem?_cons_zero, World.cell?] at h00
        split at h00
        · split at h00
          · cases h00
          · rename_i hs; simpa using hs
        · cases h00
      subst hsp
      refine ⟨b, o, rfl, ?_, ?_⟩
      · unfold Addr.add at hlt
        simp only at hlt
        split at hlt <;> (split at hlt <;> exact hlt)
      · have e : ((⟨b, o, none⟩ : Addr).add (j * 1)).add 0 = ⟨b, o + j, none⟩ := by
          unfold Addr.add
          split <;> simp_all
        rw [e] at h0; exact h0
end
set_option maxRecDepth 20000 in
theorem asks_of_laid {W : World} (h : laidMet Tryz.prog [asksD] W) : Asks W.heap.size W := by
  obtain ⟨ps, ⟨g0, t0, cs0, f0, p0, q0, hg0, ht0, hv0, hd0, _, e0⟩, _, _⟩ := h
  obtain rfl := Option.some.inj (asks_g.symm.trans hg0)
  obtain rfl := Option.some.inj (asks_t.symm.trans ht0)
  obtain ⟨xs, m, _, hx, hl, hxl, hi⟩ := DataW.trod_array Tryz.underlying129 hd0
  rw [cells_ask] at hi
  rw [cells_asks] at hl
  have hxs : (List.range 8).map askData = xs.map (·.1) := by
    have := (Prod.mk.inj hx).1
    simpa [asksD] using this
  have hcell : ∀ j, W.cell? ⟨3, j, none⟩ = cs0.toList[j]? := fun j => by
    have := World.var?_cell asks_g hv0 j
    simpa using this
  refine ⟨fun k hk => ?_, ?_, Nat.le_refl _⟩
  · have hkx : k < xs.length := by omega
    have hik := hi k hk
    rw [List.getElem?_eq_getElem hkx] at hik
    have hy : xs[k].1 = askData k := by
      have := congrArg (·[k]?) hxs
      simpa [hk, hkx] using this.symm
    generalize xs[k] = y at hik hy
    have hdl : ((cs0.toList.drop (k * 3)).take 3).length = 3 := by rw [List.length_take, List.length_drop, hl]; omega
    have hcc : ∀ j, j < 3 → ((cs0.toList.drop (k * 3)).take 3)[j]? = W.cell? ⟨3, k * 3 + j, none⟩ := fun j hj => by
      rw [hcell, List.getElem?_take_of_lt hj, List.getElem?_drop]
    generalize (cs0.toList.drop (k * 3)).take 3 = c3 at hik hdl hcc
    match c3, hdl with
    | [c0, c1, c2], _ =>
      obtain ⟨ys, m2, _, hyy, _, hx3, hj⟩ := DataW.trod_struct Tryz.underlying83 hik
      have hx4 : ys.length = 3 := hx3
      clear hx3
      match ys, hx4 with
      | [y0, y1, y2], _ =>
        have i0 : DataW.trod _ Tryz.prog W 0 _ false m2 4 ((([c0, c1, c2] : List Value).drop 0).take (Tryz.prog.cellsOf 4)) = some y0 := hj 0 _ rfl
        rw [cells_bool] at i0
        have i1 : DataW.trod _ Tryz.prog W 0 _ false m2 77 ((([c0, c1, c2] : List Value).drop 1).take (Tryz.prog.cellsOf 77)) = some y1 := hj 1 _ rfl
        rw [cells_sli] at i1
        have i2 : DataW.trod _ Tryz.prog W 0 _ false m2 4 ((([c0, c1, c2] : List Value).drop 2).take (Tryz.prog.cellsOf 4)) = some y2 := hj 2 _ rfl
        rw [cells_bool] at i2
        rw [hyy] at hy
        unfold askData at hy
        simp only [List.map_cons, List.map_nil, DataW.agg.injEq, List.cons.injEq, and_true] at hy
        obtain ⟨q0, q1, q2⟩ := hy
        obtain ⟨b0, a0, r0⟩ := DataW.trod_bool Tryz.underlying4 i0
        obtain ⟨b2, a2, r2⟩ := DataW.trod_bool Tryz.underlying4 i2
        obtain ⟨a, cap, a1, hints⟩ := ints_open (askN k) i1 q1
        have z0 : c0 = .bool b0 := List.head_eq_of_cons_eq a0
        have z1 : c1 = .slice a (askN k).length cap := List.head_eq_of_cons_eq a1
        have z2 : c2 = .bool b2 := List.head_eq_of_cons_eq a2
        rw [r0] at q0
        rw [r2] at q2
        have s0 : b0 = askE k := by simpa using q0
        have s2 : b2 = askL k := by simpa using q2
        refine ⟨a, cap, fun j u hu => ?_, hints⟩
        have hj3 : j < 3 := (List.getElem?_eq_some_iff.1 hu).1
        rw [← hcc j hj3, z0, z1, z2, s0, s2]
        exact hu
  · have := hcell 0
    have h2 : 0 < cs0.toList.length := by omega
    rw [List.getElem?_eq_getElem h2] at this
    exact lt_of_cell this
theorem wire_of_laid {W : World} (h : laidMetH Tryz.prog laidW W) : ∃ se, Genv W.heap.size se W ∧ Asks W.heap.size W := by
  have h1 := h.filter (fun x => x.1 != "cartulary/wire.asks")
  rw [laidW_first] at h1
  have h2 := h.filter (fun x => x.1 == "cartulary/wire.asks")
  rw [laidW_last] at h2
  obtain ⟨se, G⟩ := genv_of_laid h1
  unfold laidMetH at h2
  rw [asks_plain] at h2
  exact ⟨se, G, asks_of_laid h2⟩
/-- The table's slices in the witness' world. -/
noncomputable def askSlice (k : Nat) : Value := if (askN k).length = 0 then .slice none 0 0 else .slice (some ⟨low + 16 + (k - 2), 0, none⟩) (askN k).length (askN k).length
/-- A world for the witness: the sentinels, the handle, the table. -/
noncomputable def laidWorldW (os : Os) : World :=
  let w0 := World.holding Tryz.prog os ⟨(sentL.map fun p => Obj.cells #[.string ⟨p.2.toArray⟩] 311).toArray ++ ([2, 3, 4, 5, 6].map fun k => Obj.cells ((askN k).map fun (i : Nat) => Value.int .i64 i).toArray 3).toArray, #[], []⟩
  { w0 with heap := ((List.range 16).foldl (fun h i => h.modify (gno (i + 1)) fun
      | .cells _ t frozen => .cells #[.iface 292 (.pointer (some ⟨low + i, 0, none⟩))] t frozen
      | o => o) (w0.heap.modify 17 fun
      | .cells _ t frozen => .cells #[.iface 264 (.agg #[.pointer (some ⟨21, 32, none⟩)])] t frozen
      | o => o)).modify 3 fun
      | .cells _ t frozen => .cells ((List.range 8).flatMap fun k => [.bool (askE k), askSlice k, .bool (askL k)]).toArray t frozen
      | o => o }
theorem laidWorldW_met (os : Os) (args : Array Value) : laidMetH Tryz.prog laidW ((laidWorldW os).forCall (fun _ _ => 0) ⟨#[], args, []⟩).memory :=
  laidMetH_of_parts (by rw [laidW_plain]; exact laidMet_of_run' 12 (by kernel_rfl) (by kernel_rfl)) (by kernel_rfl)

def tab32 : List Int := [0, 1, 28, 2, 29, 14, 24, 3, 30, 22, 20, 15, 25, 17, 4, 8, 31, 27, 13, 23, 21, 19, 16, 7, 26, 12, 18, 6, 11, 5, 10, 9]
def tab64 : List Int := [0, 1, 56, 2, 57, 49, 28, 3, 61, 58, 42, 50, 38, 29, 17, 4, 62, 47, 59, 36, 45, 43, 51, 22, 53, 39, 33, 30, 24, 18, 12, 5, 63, 55, 48, 27, 60, 41, 37, 16, 46, 35, 44, 21, 52, 32, 23, 11, 54, 26, 40, 15, 34, 20, 31, 10, 25, 14, 19, 9, 13, 8, 7, 6]
def tab32D : String × DataW Unit := ("math/bits.deBruijn32tab", tabData .u8 tab32)
def tab64D : String × DataW Unit := ("math/bits.deBruijn64tab", tabData .u8 tab64)
def pow10D : String × DataW Unit := ("internal/strconv.uint64pow10", tabData .u64 Lib.pow10Tab)
/-- The list of the wire rows with strconv. -/
def laidZ : List (String × DataW Unit) := tab32D :: tab64D :: pow10D :: laidW
theorem laidZ_wire : (laidZ.filter fun x => !(["math/bits.deBruijn32tab", "math/bits.deBruijn64tab", "internal/strconv.uint64pow10"].contains x.1)) = laidW := by kernel_rfl
theorem laidZ_pow : (laidZ.filter fun x => x.1 == "internal/strconv.uint64pow10") = [pow10D] := by kernel_rfl
theorem laidZ_plain : (laidZ.filter fun x => x.2.handleName?.isNone) = tab32D :: tab64D :: pow10D :: (sentL.map sentD ++ [asksD]) := by kernel_rfl
theorem pow_plain : (([pow10D] : List (String × DataW Unit)).filter fun x => x.2.handleName?.isSome) = [] := by kernel_rfl
theorem tab_of_laid {W : World} (h : laidMetH Tryz.prog laidZ W) : Tab10 W := by
  have h2 := h.filter (fun x => x.1 == "internal/strconv.uint64pow10")
  rw [laidZ_pow] at h2
  unfold laidMetH at h2
  rw [pow_plain] at h2
  exact tabIs_of_head (g := 18) (t := 285) (e := 24) (n := 20) (by kernel_rfl) (by kernel_rfl) Tryz.underlying285 Tryz.underlying24 (by kernel_rfl) (by kernel_rfl) h2
theorem wire_of_laidZ {W : World} (h : laidMetH Tryz.prog laidZ W) : ∃ se, Genv W.heap.size se W ∧ Asks W.heap.size W ∧ Tab10 W := by
  have h1 := h.filter (fun x => !(["math/bits.deBruijn32tab", "math/bits.deBruijn64tab", "internal/strconv.uint64pow10"].contains x.1))
  rw [laidZ_wire] at h1
  obtain ⟨se, G, A⟩ := wire_of_laid h1
  exact ⟨se, G, A, tab_of_laid h⟩
def tabOf (k : IntKind) (zs : List Int) : Array Value := (zs.map fun z => Value.int k z).toArray
/-- A world for the witness. -/
noncomputable def laidWorldZ (os : Os) : World :=
  let w0 := laidWorldW os
  { w0 with heap := ((w0.heap.modify 19 fun
      | .cells _ t frozen => .cells (tabOf .u8 tab32) t frozen
      | o => o).modify 20 fun
      | .cells _ t frozen => .cells (tabOf .u8 tab64) t frozen
      | o => o).modify 18 fun
      | .cells _ t frozen => .cells (tabOf .u64 Lib.pow10Tab) t frozen
      | o => o }
theorem laidWorldZ_met (os : Os) (args : Array Value) : laidMetH Tryz.prog laidZ ((laidWorldZ os).forCall (fun _ _ => 0) ⟨#[], args, []⟩).memory :=
  laidMetH_of_parts (by rw [laidZ_plain]; exact laidMet_of_run' 80 (by kernel_rfl) (by kernel_rfl)) (by kernel_rfl)
end Go.Proofs.YtljnhelnmnomoaaGreatDoor
