/- The statements' TwinAnswer, LeftHashes, LeftAnswer. -/
import Derived.Test.YtkdhjighomnooaaDoorTwin2
namespace Go.Proofs.YtkdhjighomnooaaDoor
open Go.RowKit Go.Lib

theorem wpList_loadAggG {P : Program} {w : World} {ops : Array Oper} {rest : List Oper} {o : Oper} {a : Act} {Q : Exit → Act → World → Prop} (hw : Region.wanted o (yielded ops a.tmps) = true) (ty : TypeId) (x : Operand) (ho : o.op = .load ty x)
    (g off : Nat) (hx : a.eval x = .pointer (some ⟨g, off, none⟩)) (vs : List Value) {d : TypeDesc} (hu : P.underlying ty = some d) (hd : aggD d = true) (hi : (P.info? ty).map (·.size) = some vs.length)
    (hc : ∀ j v, vs[j]? = some v → w.cell? ⟨g, off + j, none⟩ = some v)
    (h : wpList P ops Q rest (a.put o.dst (.agg vs.toArray)) w) : wpList P ops Q (o :: rest) a w := by
  refine wpList_step fun K hK => ?_
  rw [if_pos hw]
  unfold Oper.wp execOp
  simp only [ho, hx, Instr.loadAt, Instr.sureAddr, Sem.run_bind, Sem.run_pure, Result.andThen_ok, run_loadVar_at g off ty vs hu hd hi hc]
  exact hK _ _ h
theorem resT (tmps : Array Value) (w : World) (g : Nat) (cs : Array Value) (hp : tmps.getD 2 undef = .pointer (some ⟨g, 0, none⟩)) (hg : w.heap[g]? = some (.cells cs 26 (0, 0))) (hs : cs.size = 4) :
    (results Tryd.f8 tmps).run Tryd.prog w = .ok (.agg cs) w :=
  results_cell_row rfl tmps w g 26 cs (0, 0) _ hp hg Tryd.underlying26 rfl (by rw [hs]; exact ans_size)
set_option maxRecDepth 8000 in
theorem twinA_any {w : World} (x : AnsD) (hx : x.Ok) {a : Option Addr} (h : HashesAt w a x.hs) (ca : Nat) (hn : x.hs.length ≤ 1048576) :
    Calls Tryd.prog 8 #[.agg (ansCells x (.slice a x.hs.length ca))] w fun e w' => ∃ g, e = .returned (.agg (ansCells x (.slice (some ⟨g, 0, none⟩) x.hs.length (x.hs.length + 1)))) ∧ TwinAt w' g x.hs ∧ Ext w w' := by
  have X := ((Upd.refl none' w).alloc (.cells (ansCells x (.slice a x.hs.length ca)) 26)).alloc (.cells zeroAns.toArray 26)
  have hb := blk_alloc_lt (blk_alloc w (.cells (ansCells x (.slice a x.hs.length ca)) 26)) (.cells zeroAns.toArray 26)
  have hz := blk_alloc (w.alloc (.cells (ansCells x (.slice a x.hs.length ca)) 26)) (.cells zeroAns.toArray 26)
  have C := twinH_any (h.later X) hx.len ca hn
  rw [World.size_alloc, World.size_alloc] at C
  rw [World.size_alloc] at hz
  have c2 := cell_of_blk hb 2
  simp only [ansCells, zeroAns] at X hb hz C c2 ⊢
  simp only [List.size_toArray, List.getElem?_toArray, List.getElem?_cons_zero, List.getElem?_cons_succ] at c2
  have HX := Lib.hid X
  have HB := Lib.hid hb
  have HZ := Lib.hid hz
  clear X hb hz h
  go_enter Tryd.func8, Tryd.ntmps8
  go_wp2_with fail
  refine C.mono ?_
  rintro e w1 ⟨rfl, ht, u⟩
  have hb1 := Ext.blk u HB.out
  have hz1 := Ext.blk u HZ.out
  have c2 := cell_of_blk hb1 2
  have f2 := free_of_blk hb1 2
  simp only [List.size_toArray, List.getElem?_toArray, List.getElem?_cons_zero, List.getElem?_cons_succ] at c2
  have hb2 := blk_set hb1 2 (.slice (some ⟨w.heap.size + 1 + 1, 0, none⟩) x.hs.length (x.hs.length + 1))
  simp only [Array.setIfInBounds, List.size_toArray, List.length_cons, List.length_nil, Nat.reduceAdd, Nat.reduceLT, dite_true] at hb2
  have hz2 := blk_set_ne hz1 (p := ⟨w.heap.size, 2, none⟩) (by show w.heap.size + 1 ≠ w.heap.size; omega) (.slice (some ⟨w.heap.size + 1 + 1, 0, none⟩) x.hs.length (x.hs.length + 1))
  have ht2 := blk_set_ne ht (p := ⟨w.heap.size, 2, none⟩) (by show w.heap.size + 1 + 1 ≠ w.heap.size; omega) (.slice (some ⟨w.heap.size + 1 + 1, 0, none⟩) x.hs.length (x.hs.length + 1))
  have hu2 : Ext w (w1.setCell ⟨w.heap.size, 2, none⟩ (.slice (some ⟨w.heap.size + 1 + 1, 0, none⟩) x.hs.length (x.hs.length + 1))) := (HX.out.trans u).setCell (.inl (Nat.le_refl _)) _
  have HL := Lib.hid (fun (j : Nat) (u : Value) (hu : ([.int .u8 x.code, .int .u64 x.size, .slice (some ⟨w.heap.size + 1 + 1, 0, none⟩) x.hs.length (x.hs.length + 1), .string x.leaf] : List Value)[j]? = some u) => show World.cell? _ ⟨w.heap.size, 0 + j, none⟩ = some u from by rw [cell_of_blk hb2]; simpa using hu)
  have HZ2 := Lib.hid hz2
  have hF := Lib.hid (blk_setRow hz2 #[.int .u8 x.code, .int .u64 x.size, .slice (some ⟨w.heap.size + 1 + 1, 0, none⟩) x.hs.length (x.hs.length + 1), .string x.leaf])
  have HT := Lib.hid (blk_setRow_ne ht2 (by omega : w.heap.size + 1 + 1 ≠ w.heap.size + 1) #[.int .u8 x.code, .int .u64 x.size, .slice (some ⟨w.heap.size + 1 + 1, 0, none⟩) x.hs.length (x.hs.length + 1), .string x.leaf])
  have HU := Lib.hid (hu2.setRow (g := w.heap.size + 1) (.inl (by omega)) #[.int .u8 x.code, .int .u64 x.size, .slice (some ⟨w.heap.size + 1 + 1, 0, none⟩) x.hs.length (x.hs.length + 1), .string x.leaf])
  clear C u hb1 hz1 hb2 hz2 ht ht2 hu2
  go_wp2_with (first
    | (refine wpList_loadAgg rfl 26 _ rfl w.heap.size 0 rfl [.int .u8 x.code, .int .u64 x.size, .slice (some ⟨w.heap.size + 1 + 1, 0, none⟩) x.hs.length (x.hs.length + 1), .string x.leaf] Tryd.underlying26 rfl ans_size HL.out ?_)
    | (refine store_whole rfl 26 _ _ rfl (w.heap.size + 1) rfl [.int .u8 x.code, .int .u64 x.size, .slice (some ⟨w.heap.size + 1 + 1, 0, none⟩) x.hs.length (x.hs.length + 1), .string x.leaf] rfl ans_size zeroAns 26 HZ2.out rfl (ans_one _ _ _ _ rfl) ?_))
  exact bodyPost_ret (v := .agg #[.int .u8 x.code, .int .u64 x.size, .slice (some ⟨w.heap.size + 1 + 1, 0, none⟩) x.hs.length (x.hs.length + 1), .string x.leaf]) (resT _ _ (w.heap.size + 1) _ rfl hF.out rfl) rfl ⟨w.heap.size + 1 + 1, rfl, HT.out, HU.out⟩
set_option maxRecDepth 8000 in
theorem leftH_any {w : World} {g : Nat} {a : Option Addr} {l : List (List UInt8)} (ht : TwinAt w g l) (h : HashesAt w a l) (hl : ∀ t ∈ l, t.length = 32) (ca : Nat) (hn : l.length ≤ 1048576) :
    Calls Tryd.prog 35 #[.slice (some ⟨g, 0, none⟩) l.length (l.length + 1), .slice a l.length ca] w fun e w' => e = .returned (.bool true) ∧ Ext w w' := by
  have C := sameHashes_any (ht.hashes hl) h (l.length + 1) ca (by omega)
  have CI := fun w1 => isHash_any w1
  rw [markV_is] at CI
  have HT := Lib.hid ht
  have HL := Lib.hid hl
  have hni : (l.length : Int) ≤ 1048576 := by omega
  have hlt1 : (l.length : Int) < l.length + 1 := by omega
  clear ht h hl
  go_enter Tryd.func35, Tryd.ntmps35
  go_wp2_with fail
  refine C.mono ?_
  rintro e w1 ⟨rfl, u⟩
  have HT1 : Hid (TwinAt w1 g l) := Lib.hid (Ext.blk u HT.out)
  have HU := Lib.hid u
  have HC := Lib.hid (fun (j : Nat) (u : Value) (hu : markV[j]? = some u) => HT1.out.mark HL.out j u hu)
  clear u C
  go_wp2_with (refine wpList_loadAggG (by rfl) 70 _ rfl g (l.length * 32) (by go_simp; all_goals exact rfl) markV Tryd.underlying70 rfl hash_size' HC.out ?_)
  refine (CI _).mono ?_
  rintro e w2 ⟨rfl, u⟩
  have HU2 := Lib.hid (HU.out.trans u)
  clear u
  go_wp2_with fail
  go_ret
  exact ⟨rfl, HU2.out⟩
theorem leftA_any {w : World} (x : AnsD) (hx : x.Ok) {g : Nat} {a : Option Addr} (ht : TwinAt w g x.hs) (h : HashesAt w a x.hs) (ca : Nat) (hn : x.hs.length ≤ 1048576) :
    Calls Tryd.prog 12 #[.agg (ansCells x (.slice (some ⟨g, 0, none⟩) x.hs.length (x.hs.length + 1))), .agg (ansCells x (.slice a x.hs.length ca))] w fun e w' => e = .returned (.bool true) ∧ Ext w w' := by
  have X := ((Upd.refl none' w).alloc (.cells (ansCells x (.slice (some ⟨g, 0, none⟩) x.hs.length (x.hs.length + 1))) 26)).alloc (.cells (ansCells x (.slice a x.hs.length ca)) 26)
  have hb1 := blk_alloc_lt (blk_alloc w (.cells (ansCells x (.slice (some ⟨g, 0, none⟩) x.hs.length (x.hs.length + 1))) 26)) (.cells (ansCells x (.slice a x.hs.length ca)) 26)
  have hb2 := blk_alloc (w.alloc (.cells (ansCells x (.slice (some ⟨g, 0, none⟩) x.hs.length (x.hs.length + 1))) 26)) (.cells (ansCells x (.slice a x.hs.length ca)) 26)
  rw [World.size_alloc] at hb2
  have ht1 : TwinAt _ g x.hs := Ext.blk X ht
  have CS := sameA_any x hx (ht1.hashes hx.len) (h.later X) (x.hs.length + 1) ca
  simp only [ansCells] at X hb1 hb2 CS ⊢
  have HX := Lib.hid X
  have HB1 := Lib.hid hb1
  have HB2 := Lib.hid hb2
  have HT := Lib.hid ht
  have HH := Lib.hid h
  have HOK := Lib.hid hx
  clear X hb1 hb2 ht ht1 h hx
  go_enter Tryd.func12, Tryd.ntmps12
  go_wp2_with fail
  refine CS.mono ?_
  rintro e w1 ⟨rfl, u⟩
  have b1 := Ext.blk u HB1.out
  have b2 := Ext.blk u HB2.out
  have c2 := cell_of_blk b1 2
  have d2 := cell_of_blk b2 2
  simp only [List.size_toArray, List.getElem?_toArray, List.getElem?_cons_zero, List.getElem?_cons_succ] at c2 d2
  have u1 := HX.out.trans u
  have CL := leftH_any (w := w1) (g := g) (Ext.blk u1 HT.out) (HH.out.later u1) HOK.out.len ca hn
  have HU := Lib.hid u1
  clear u u1 CS b1 b2
  go_wp2_with fail
  refine CL.mono ?_
  rintro e w2 ⟨rfl, u⟩
  have HU2 := Lib.hid (HU.out.trans u)
  clear u CL
  go_wp2_with fail
  go_ret
  exact ⟨rfl, HU2.out⟩
end Go.Proofs.YtkdhjighomnooaaDoor
