/- bits.TrailingZeros64 of a number not zero; of a count's complement it is the number of low ones. From a state within a region that draws its order: operations that keep a law on worlds and that alone may come up until each has, walked once in one order; then the rest. Nothing of the program. Steps of a region that draws its order, one branch for each order: for regions where an operation makes a block whose number hangs on the order. Nothing of the program. What DecodeQuery holds when a leaf is appended; the steps that region 24 wants. clear of a part of an own row. Nothing of the program. Slices of slices, as operations. Nothing of the program. From a state within a region that draws its order: operations that read, and ONE (p) that makes something out of nothing they read, walked once in one order; then the rest. Nothing of the program. -/
import Derived.Test.YtnkcfkjeeennmaaGreatDoorTree
import Derived.Test.YtnkcfkjeeennmaaGreatDoorBuildOne
import Derived.Shelf.Spec.TrailingZeros
import Derived.Test.YtnkcfkjeeennmaaGreatDoorTwo
import Derived.Test.YtnkcfkjeeennmaaGreatDoorInv
import Derived.Deep.CutRange
import Derived.Test.YtnkcfkjeeennmaaGreatDoorHRow
namespace Go.Proofs.YtnkcfkjeeennmaaGreatDoor
open Go.RowKit Go.Lib


theorem ctz_ones : ∀ (f n : Nat), n + 1 < 2 ^ f → Lib.ctzFrom f (2 ^ f - 1 - n) = ones n := by
  intro f
  induction f with
  | zero => intro n h; simp at h
  | succ f ih =>
    intro n h
    have e : 2 ^ (f + 1) = 2 * 2 ^ f := by rw [Nat.pow_succ]; omega
    unfold Lib.ctzFrom
    by_cases ho : n % 2 = 1
    · rw [if_neg (by omega), ones_odd ho, show (2 ^ (f + 1) - 1 - n) / 2 = 2 ^ f - 1 - n / 2 by omega, ih (n / 2) (by omega)]
      omega
    · rw [if_pos (by omega), ones_even ho]
theorem ctz_compl (n : Nat) (h : n + 1 < 18446744073709551616) : Lib.ctz 64 (18446744073709551615 - n) = ones n := by
  unfold Lib.ctz
  rw [if_neg (by omega)]
  exact ctz_ones 64 n h
set_option maxRecDepth 20000 in
set_option maxHeartbeats 1000000 in
theorem ctz_core (x k idx : Nat) (w : World) (hx0 : ((x : Int) == 0) = false)
    (key : IntKind.u64.wrap (bits BinOp.and IntKind.u64 (x : Int) (IntKind.u64.wrap (-(x : Int))) * 285870213051353865) / 288230376151711744 = (idx : Int))
    (hi : idx < 64) (hk : k < 64) (hcell : w.cell? ⟨20, idx, none⟩ = some (.int .u8 k)) :
    Calls Tryz.prog 145 #[.int .u64 x] w fun e w' => e = .returned (.int .i64 k) ∧ w = w' := by
  have hii : ((idx : Nat) : Int) < 64 := by omega
  have hkk : (k : Int) < 64 := by omega
  go_enter Tryz.func145, Tryz.ntmps145
  go_wp2_with (simp only [key])
  go_ret
  exact ⟨rfl, rfl⟩
theorem ctz_any (x : Nat) (hx0 : x ≠ 0) (hx : x < 18446744073709551616) (w : World) (hT : TabAt 20 Lib.deBruijn64tab w) :
    Calls Tryz.prog 145 #[.int .u64 x] w fun e w' => e = .returned (.int .i64 (Lib.ctz 64 x)) ∧ w = w' := by
  obtain ⟨hlow, hk⟩ := Lib.lowest_bit 64 x hx0 hx
  obtain ⟨hi, htab⟩ := Lib.deBruijn64_at _ hk
  have hcell := hT _ hi
  rw [htab] at hcell
  exact ctz_core x _ _ w (by simp; omega) (tz64_key x _ hx hx0 hlow) hi hk hcell
theorem tabAt_ext {g : Nat} {tab : List Nat} {w w' : World} (h : TabAt g tab w) (u : Ext w w') : TabAt g tab w' := fun j hj => Ext.cellv u (h j hj)

section
variable {P : Program} {ops : Array Oper} {md : Region.Mode} {I : World → Prop}
/-- Until all of ks are listed none but they may come up. -/
def onlyB (md : Region.Mode) (ops : Array Oper) (ks : List Nat) : Nat → Array Bool → Bool
  | 0, listed => ks.all fun k => listed.getD k false
  | m + 1, listed => !(Region.ready md ops listed).isEmpty && (Region.ready md ops listed).all fun i => ks.contains i && onlyB md ops ks m (listed.setIfInBounds i true)
def seqB (md : Region.Mode) (ops : Array Oper) : List Nat → Array Bool → Bool
  | [], _ => true
  | k :: ks, listed => (Region.ready md ops listed).contains k && Region.free md ops listed k && seqB md ops ks (listed.setIfInBounds k true)
def anySeq (P : Program) (md : Region.Mode) (ops : Array Oper) (I : World → Prop) (K : Array Bool → Act → Prop) : Nat → Array Bool → Act → Prop
  | 0, listed, a => K listed a
  | m + 1, listed, a => ∀ i ∈ Region.ready md ops listed, ∃ o v, ops[i]? = some o ∧ InvYields P ops I o v a ∧ anySeq P md ops I K m (listed.setIfInBounds i true) (a.put o.dst v)
theorem onlyB_succ {ks : List Nat} {m : Nat} {listed : Array Bool} (h : onlyB md ops ks (m + 1) listed = true) : Region.ready md ops listed ≠ [] ∧ ∀ i ∈ Region.ready md ops listed, i ∈ ks ∧ onlyB md ops ks m (listed.setIfInBounds i true) = true := by
  unfold onlyB at h
  simp only [Bool.and_eq_true, Bool.not_eq_true', List.isEmpty_eq_false_iff, List.all_eq_true, List.contains_iff_mem] at h
  exact h
theorem anySeq_sound {K : Array Bool → Act → Prop} {Q : Exit → Act → World → Prop} {ks : List Nat} {t : Nat} (hK : ∀ listed a w, K listed a → I w → wpAny P md ops Q t listed a w) :
    ∀ (m : Nat) (listed : Array Bool) (a : Act), onlyB md ops ks m listed = true → anySeq P md ops I K m listed a → ∀ w, I w → wpAny P md ops Q (m + t) listed a w
  | 0, listed, a, _, h, w, hw => by rw [Nat.zero_add]; exact hK listed a w h hw
  | m + 1, listed, a, ho, h, w, hw => by
    obtain ⟨h1, h2⟩ := onlyB_succ ho
    rw [show m + 1 + t = m + t + 1 by omega]
    refine ⟨fun e => absurd e h1, fun i hi => ?_⟩
    obtain ⟨o, v, hio, hy, hk⟩ := h i hi
    exact hy.wp hio hw fun w' hw' => anySeq_sound hK m _ _ (h2 i hi).2 hk w' hw'
theorem anySeq_first {K : Array Bool → Act → Prop} {i : Nat} {oi : Oper} {v : Value} {ks : List Nat} (hi : ops[i]? = some oi) (hsel : ∀ (j : Nat) (o : Oper) cs b, ops[j]? = some o → o.op ≠ .select cs b) :
    ∀ (m : Nat) (listed : Array Bool) (a : Act), onlyB md ops ks (m + 1) listed = true →
      (∀ j oj, ops[j]? = some oj → j ≠ i → listed.getD j true = false → (∀ e ∈ oj.after, Region.binds md e = true → e.on ≠ i) → oi.apart ops oj = true) →
      i ∈ Region.ready md ops listed → InvYields P ops I oi v a → anySeq P md ops I K m (listed.setIfInBounds i true) (a.put oi.dst v) → anySeq P md ops I K (m + 1) listed a := by
  intro m
  induction m with
  | zero =>
    intro listed a ho _ hr hy H j hj
    by_cases hji : j = i
    · subst hji; exact ⟨oi, v, hi, hy, H⟩
    · exfalso
      obtain ⟨_, h2⟩ := onlyB_succ ho
      have h3 := (h2 i hr).2
      unfold onlyB at h3
      have h4 := List.all_eq_true.1 h3 j (h2 j hj).1
      rw [getD_set_ne false (Ne.symm hji)] at h4
      have h5 := (mem_ready.1 hj).1
      rcases Nat.lt_or_ge j listed.size with h' | h'
      · simp [h'] at h4 h5; rw [h4] at h5; cases h5
      · simp [Array.getElem?_eq_none h'] at h4
  | succ m ih =>
    intro listed a ho hfree hr hy H j hj
    by_cases hji : j = i
    · subst hji; exact ⟨oi, v, hi, hy, H⟩
    · obtain ⟨oj, u, hoj, hyj, hkj⟩ := H j (ready_mono hj hji)
      obtain ⟨hjun, oj', hoj', hall⟩ := mem_ready.1 hj
      obtain rfl : oj' = oj := Option.some.inj (hoj'.symm.trans hoj)
      have hnot : ∀ e ∈ oj'.after, Region.binds md e = true → e.on ≠ i := fun e he hb heq => by
        have h1 := hall e he hb
        have h0 := (mem_ready.1 hr).1
        rw [heq] at h1
        rcases Nat.lt_or_ge i listed.size with h' | h'
        · simp [h'] at h0 h1; rw [h0] at h1; cases h1
        · simp [Array.getElem?_eq_none h'] at h1
      obtain ⟨a1, a2, a3⟩ := Oper.apart_spec (hfree j oj' hoj hji hjun hnot)
      have hfree' : ∀ k ok, ops[k]? = some ok → k ≠ i → (listed.setIfInBounds j true).getD k true = false →
          (∀ e ∈ ok.after, Region.binds md e = true → e.on ≠ i) → oi.apart ops ok = true := fun k ok hk hki hun hno => by
        refine hfree k ok hk hki ?_ hno
        by_cases hjk : j = k
        · subst hjk; exact hjun
        · rw [getD_set_ne true hjk] at hun; exact hun
      refine ⟨oj', u, hoj, (InvYields.of_put (hsel j oj' · · hoj) a1).1 hyj, ih (listed.setIfInBounds j true) (a.put oj'.dst u) ((onlyB_succ ho).2 j hj).2 hfree' (ready_mono hr (Ne.symm hji)) ((InvYields.of_put (hsel i oi · · hi) a3).2 hy) ?_⟩
      rw [Array.setIfInBounds_comm _ _ hji, Act.put_comm a u v (fun d hd e => a2 d e hd)]
      exact hkj
theorem anySeq_lex {Q : Act → Prop} {ks0 : List Nat} (hs : Region.noSelect ops = true) : ∀ (ks : List Nat) (l : List Oper) (listed : Array Bool) (a : Act), (ks.map fun k => ops[k]?) = l.map some →
    seqB md ops ks listed = true → onlyB md ops ks0 ks.length listed = true → wpInv P ops I Q l a → anySeq P md ops I (fun L a' => L = ks.foldl (fun L k => L.setIfInBounds k true) listed ∧ Q a') ks.length listed a
  | [], [], _, _, _, _, _, h => ⟨rfl, h⟩
  | [], o :: l, _, _, hl, _, _, _ => by simp at hl
  | k :: ks, [], _, _, hl, _, _, _ => by simp at hl
  | k :: ks, o :: l, listed, a, hl, hB, ho, h => by
    simp only [List.map_cons, List.cons.injEq] at hl
    simp only [seqB, Bool.and_eq_true, List.contains_iff_mem] at hB
    obtain ⟨⟨hr, hf⟩, hB'⟩ := hB
    obtain ⟨v, hy, hK⟩ := h
    exact anySeq_first hl.1 (Region.noSelect_spec hs) ks.length listed a ho (Region.free_spec hl.1 hf) hr hy
      (anySeq_lex hs ks l _ _ hl.2 hB' ((onlyB_succ ho).2 k hr).2 hK)
/-- The operations ks by one walk; then the rest. -/
theorem any_seq {Q : Exit → Act → World → Prop} {a : Act} {w : World} {listed : Array Bool} {t : Nat} (ks : List Nat) (l : List Oper) (I : World → Prop) (hns : Region.noSelect ops = true) (hl : (ks.map fun k => ops[k]?) = l.map some)
    (hs : seqB md ops ks listed = true) (ho : onlyB md ops ks ks.length listed = true) (hI : I w)
    (h : wpInv P ops I (fun a' => ∀ w', I w' → wpAny P md ops Q t (ks.foldl (fun L k => L.setIfInBounds k true) listed) a' w') l a) : wpAny P md ops Q (ks.length + t) listed a w :=
  anySeq_sound (ks := ks) (fun L a' w' hk hw' => by obtain ⟨rfl, hq⟩ := hk; exact hq w' hw') ks.length listed a ho (anySeq_lex hns ks l listed a hl hs ho h) w hI
end

section
variable {P : Program} {ops : Array Oper} {Q : Exit → Act → World → Prop} {n : Nat} {listed : Array Bool} {a : Act} {w : World}
theorem any1 (i : Nat) (hr : Region.ready .any ops listed = [i]) (h : wpOp P ops Q i (wpAny P .any ops Q n (listed.setIfInBounds i true)) a w) : wpAny P .any ops Q (n + 1) listed a w :=
  wpAny_all hr (by simp) (fun j hj => by rw [List.mem_singleton.1 hj]; exact h)
theorem any2 (i j : Nat) (hr : Region.ready .any ops listed = [i, j]) (h1 : wpOp P ops Q i (wpAny P .any ops Q n (listed.setIfInBounds i true)) a w) (h2 : wpOp P ops Q j (wpAny P .any ops Q n (listed.setIfInBounds j true)) a w) : wpAny P .any ops Q (n + 1) listed a w :=
  wpAny_all hr (by simp) (fun m hm => by
    rcases List.mem_cons.1 hm with rfl | hm
    · exact h1
    · rw [List.mem_singleton.1 hm]; exact h2)
theorem any3 (i j k : Nat) (hr : Region.ready .any ops listed = [i, j, k]) (h1 : wpOp P ops Q i (wpAny P .any ops Q n (listed.setIfInBounds i true)) a w) (h2 : wpOp P ops Q j (wpAny P .any ops Q n (listed.setIfInBounds j true)) a w)
    (h3 : wpOp P ops Q k (wpAny P .any ops Q n (listed.setIfInBounds k true)) a w) : wpAny P .any ops Q (n + 1) listed a w :=
  wpAny_all hr (by simp) (fun m hm => by
    rcases List.mem_cons.1 hm with rfl | hm
    · exact h1
    · rcases List.mem_cons.1 hm with rfl | hm
      · exact h2
      · rw [List.mem_singleton.1 hm]; exact h3)
variable {i : Nat} {o : Oper} {K : Act → World → Prop}
theorem op_val {v : Value} {w' : World} (hi : ops[i]? = some o) (hw : Region.wanted o (yielded ops a.tmps) = true) (hr : (execOp a.eval o).run P w = .ok (.value v) w') (h : K (a.put o.dst v) w') : wpOp P ops Q i K a w := by
  unfold wpOp
  simp only [hi]
  rw [if_pos hw]
  left
  unfold Oper.wp
  rw [hr]
  exact h
theorem op_load1 (hi : ops[i]? = some o) (hw : Region.wanted o (yielded ops a.tmps) = true) {ty : TypeId} {x : Operand} (ho : o.op = .load ty x) (p : Addr) (v : Value) (hx : a.eval x = .pointer (some p)) {d : TypeDesc} (hu : P.underlying ty = some d) (hd : aggD d = false)
    (hc : w.cell? p = some v) (h : K (a.put o.dst v) w) : wpOp P ops Q i K a w := by
  refine op_val hi hw ?_ h
  have hagg : (isAgg ty).run P w = .ok false w := by
    unfold isAgg
    rw [Sem.run_bind, run_underlying hu w]
    cases d <;> simp_all [aggD]
  simp [execOp, ho, hx, Instr.loadAt, Instr.sureAddr, loadVar, Sem.run_bind, hagg, hc]
theorem op_loadAgg (hi : ops[i]? = some o) (hw : Region.wanted o (yielded ops a.tmps) = true) (ty : TypeId) (x : Operand) (ho : o.op = .load ty x) (g off : Nat) (hx : a.eval x = .pointer (some ⟨g, off, none⟩)) (vs : List Value) {d : TypeDesc} (hu : P.underlying ty = some d) (hd : aggD d = true)
    (hs : (P.info? ty).map (·.size) = some vs.length) (hc : ∀ j v, vs[j]? = some v → w.cell? ⟨g, off + j, none⟩ = some v) (h : K (a.put o.dst (.agg vs.toArray)) w) : wpOp P ops Q i K a w :=
  op_val hi hw (by simp only [execOp, ho, hx, Instr.loadAt, Instr.sureAddr, Sem.run_bind, Sem.run_pure, Result.andThen_ok, run_loadVar_at g off ty vs hu hd hs hc]) h
theorem op_callf (hi : ops[i]? = some o) (hw : Region.wanted o (yielded ops a.tmps) = true) (f : FuncId) (args : List Operand) (ts : Array TypeId)
    (ho : o.op = .call { callee := .value (.func f), args := args.toArray, argTypes := ts }) (hb : hasBody P f = true) (vals : List Value) (hv : args.map a.eval = vals) {R : Value → World → Prop}
    (C : Calls P f vals.toArray w fun e w' => ∃ v, e = .returned v ∧ R v w') (h : ∀ v w', R v w' → K (a.put o.dst v) w') : wpOp P ops Q i K a w := by
  unfold wpOp
  simp only [hi]
  rw [if_pos hw]
  left
  have := step_call (Q := Q) (E := True) hw f args ts ho hb vals hv C h
  rwa [if_pos hw] at this
theorem op_alloc (hi : ops[i]? = some o) (hw : Region.wanted o (yielded ops a.tmps) = true) (ty : TypeId) (ho : o.op = .alloc ty) (z : Value) (hz : (P.info? ty).bind (·.zero) = some z) (h : K (a.put o.dst (.pointer (some ⟨w.heap.size, 0, none⟩))) (w.alloc (.cells z.cells ty))) : wpOp P ops Q i K a w := by
  refine op_val hi hw ?_ h
  cases hq : P.info? ty with
  | none => simp [hq] at hz
  | some t =>
    have hz2 : t.zero = some z := by simpa [hq] using hz
    simp [execOp, ho, Instr.alloc, zeroValue, typeInfo, hq, hz2, newVar, newRow]
theorem op_storeAgg (hi : ops[i]? = some o) (hw : Region.wanted o (yielded ops a.tmps) = true) (ty : TypeId) (x y : Operand) (ho : o.op = .store ty x y)
    (g : Nat) (hx : a.eval x = .pointer (some ⟨g, 0, none⟩)) (vs : List Value) (hy : a.eval y = .agg vs.toArray) (hs : (P.info? ty).map (·.size) = some vs.length)
    (cs : List Value) (t : TypeId) (hg : w.heap[g]? = some (.cells cs.toArray t (0, 0))) (hfit : cs.length = vs.length) (h1 : ∀ u ∈ vs, u.oneCell' = true)
    (h : K (a.put o.dst undef) (w.setRow g vs.toArray)) : wpOp P ops Q i K a w := by
  unfold wpOp
  simp only [hi]
  rw [if_pos hw]
  left
  have hst := run_storeCells_at P g 0 t vs 0 cs.toArray w hg (by simp; omega) h1
  cases hq : P.info? ty with
  | none => simp [hq] at hs
  | some it =>
    have hss : it.size = vs.length := by simpa [hq] using hs
    have hov : vs ++ List.drop vs.length cs = vs := by rw [List.drop_eq_nil_of_le (by omega), List.append_nil]
    simp only [Nat.add_zero, Nat.zero_add] at hst
    unfold Oper.wp execOp
    simp [ho, hx, hy, Instr.storeAt, Instr.sureAddr, storeVar, sizeOf, typeInfo, hq, hss, Value.cells, hst, hov]
    exact h
end

section
variable {P : Program} {ops : Array Oper} {Q : Exit → Act → World → Prop} {a : Act} {w : World} {i : Nat} {o : Oper} {K : Act → World → Prop}
theorem any_normQ {md : Region.Mode} {n : Nat} {listed : Array Bool} {a' : Act} (h : a = a') (hk : wpAny P md ops Q n listed a' w) : wpAny P md ops Q n listed a w := h ▸ hk
theorem op_assignQ (hi : ops[i]? = some o) (hw : Region.wanted o (yielded ops a.tmps) = true) {x : Operand} (ho : o.op = .assign x) (v : Value) (hv : a.eval x = v) (h : K (a.put o.dst v) w) : wpOp P ops Q i K a w := by
  subst hv
  exact op_val hi hw (by simp [execOp, ho]) h
theorem op_build1Q (hi : ops[i]? = some o) (hw : Region.wanted o (yielded ops a.tmps) = true) (t e : TypeId) (y : Operand) (ho : o.op = .buildSlice t 1 #[(0, y)]) (v : Value) (hy : a.eval y = v) (hu : P.underlying t = some (.slice e))
    (ie : TypeInfo) (z : Value) (hie : P.info? e = some ie) (hz : ie.zero = some z) (hs : ie.size = 1) (hv : v.cells = #[v]) (h : K (a.put o.dst (.slice (some ⟨w.heap.size, 0, none⟩) 1 1)) (w.alloc (.cells #[v] e))) : wpOp P ops Q i K a w := by
  refine op_val hi hw ?_ h
  have hr := run_buildSlice (P := P) w t e 1 #[(0, v)] #[v] ie z hu hie hz (by rw [hs]; omega) (by rw [hs]; omega) (by
    simp only [Instr.fill, hs, Nat.zero_mul, Nat.one_mul, hv]
    rw [if_neg (by simp)]
    have := fold_all [v] ((Array.range 1).map (z.cells[· % z.cells.size]!)) (by simp)
    simpa using this)
  simp only [execOp, ho, List.map_toArray, List.map_cons, List.map_nil, hy, Sem.run_bind, hr, Result.andThen_ok]
  rfl
theorem op_store1 (hi : ops[i]? = some o) (hw : Region.wanted o (yielded ops a.tmps) = true) (ty : TypeId) (x y : Operand) (ho : o.op = .store ty x y)
    (p : Addr) (hx : a.eval x = .pointer (some p)) (v : Value) (hy : a.eval y = v) (hcs : v.cells = #[v]) (h1 : v.oneCell' = true) (hs : (P.info? ty).map (·.size) = some 1)
    (c : Value) (hc : w.cell? p = some c) (hf : w.frozen? p = false) (h : K (a.put o.dst undef) (w.setCell p v)) : wpOp P ops Q i K a w := by
  unfold wpOp
  simp only [hi]
  rw [if_pos hw]
  left
  cases hq : P.info? ty with
  | none => simp [hq] at hs
  | some it =>
    have hss : it.size = 1 := by simpa [hq] using hs
    have h0 : p.add 0 = p := by cases p; unfold Addr.add; split <;> simp_all
    have hst : (storeCells p [v] 0).run P w = .ok () (w.setCell p v) := by
      simp only [storeCells, Sem.run_bind, h0]
      rw [run_store P w p v .plain h1, hc]
      simp [hf]
    unfold Oper.wp execOp
    simp [ho, hx, hy, Instr.storeAt, Instr.sureAddr, storeVar, sizeOf, typeInfo, hq, hss, hcs, hst]
    exact h
theorem op_app1 (hgi : ops[i]? = some o) (hw : Region.wanted o (yielded ops a.tmps) = true) (s x : Operand) (t : TypeId)
    (ho : o.op = .call { callee := .builtin .append, args := #[s, x], argTypes := #[t, t] })
    (base : Nat) (e : TypeId) (it : TypeInfo) (z : Value) (size bytes : Nat) (ht : P.underlying t = some (.slice e)) (hi : P.info? e = some it) (hz : it.zero = some z)
    (hsize : it.size = size) (hby : it.bytes = bytes) (hzs : z.cells.size = size) (hsz : 0 < size)
    (v : Value) (n : Nat) (xs : List Value) (hs : a.eval s = v) (hown : w.ownsRow base e size v n xs)
    (ad : Addr) (m c : Nat) (news : List Value) (hx : a.eval x = .slice (some ad) m c) (hl : news.length = m * size) (hnews : ∀ j u, news[j]? = some u → w.cell? (ad.add j) = some u) (h1 : ∀ u ∈ news, u.oneCell' = true)
    (h63 : n + m ≤ maxLen) (hbytes : (n + m) * bytes ≤ 140737488355328) (hbase : base ≤ w.heap.size)
    (h : ∀ v' w', w'.ownsRow base e size v' (n + m) (xs ++ news) → w.grownBy w' v.ownBlock → (v'.ownBlock = v.ownBlock ∨ v'.ownBlock = some w.heap.size) → K (a.put o.dst v') w') : wpOp P ops Q i K a w := by
  obtain ⟨v', w', hr, h2, h3, _⟩ := run_append_own (P := P) w base t o.type e it z size bytes ht hi hz hsize hby hzs hsz v n xs hown ad m c news hl hnews h1 h63 hbytes hbase
  subst hsize
  subst hby
  have h4 := append_block w base t o.type e it z ht hi hz v n xs hown ad m c news hl hnews h1 h63 hbytes v' w' hr
  refine op_val hgi hw ?_ (h v' w' h2 h3 h4)
  unfold execOp
  simp only [ho, resolve, invoke, builtin, Sem.run_bind, Sem.run_pure, Result.andThen_ok, List.map_toArray, List.map_cons, List.map_nil, hs, hx, hr]
end
section
end
theorem info_string : (Tryz.prog.info? 9).map (fun i => (i.zero, i.size, i.bytes)) = some (some (.string ⟨#[]⟩), 1, 16) := by kernel_rfl
theorem own_cells {w : World} {B e size n : Nat} {v : Value} {xs : List Value} (h : w.ownsRow B e size v n xs) : v.cells = #[v] := by
  rcases h.2 with ⟨rfl, _⟩ | ⟨g, cap, cur, rfl, _⟩ <;> rfl
theorem size_strs : (Tryz.prog.info? 22).map (·.size) = some 1 := by kernel_rfl

section
variable {P : Program}
theorem setRow_same {w : World} {g : Nat} {cs : Array Value} {t : TypeId} {f : Nat × Nat} (h : w.heap[g]? = some (.cells cs t f)) : w.setRow g cs = w := by
  have e : (w.setRow g cs).heap = w.heap := by
    apply Array.ext_getElem?
    intro k
    by_cases hk : k = g
    · subst hk; rw [setRow_heap w k cs cs t f h, h]
    · exact setRow_other w g k cs hk
  cases w
  simp only [World.setRow] at e ⊢
  rw [e]
/-- 'clear(s)': the cells of s hold the zero value; nothing else turns. -/
theorem run_clear_row (w : World) (t ty e : TypeId) (i : TypeInfo) (z : Value) (ht : P.underlying t = some (.slice e)) (hi : P.info? e = some i) (hz : i.zero = some z) (h1 : ∀ u ∈ (Builtin.zeroCells z.cells 1).toList, u.oneCell' = true) (g off n c : Nat) (cs : List Value) (te : TypeId)
    (hg : w.heap[g]? = some (.cells cs.toArray te (0, 0))) (hfit : off + n * z.cells.size ≤ cs.length) : ∃ vs : List Value, vs.length = n * z.cells.size ∧
    (Builtin.clear_ #[t] ty #[.slice (some ⟨g, off, none⟩) n c]).run P w = .ok (.tuple #[]) (w.setRow g (over cs off vs).toArray) := by
  cases n with
  | zero =>
    refine ⟨[], by simp, ?_⟩
    have e1 : over cs off [] = cs := by simp [over]
    have e2 : w.setRow g cs.toArray = w := setRow_same hg
    rw [e1, e2]
    simp [Builtin.clear_, run_underlying ht]
  | succ n =>
    refine ⟨(Builtin.zeroCells z.cells (n + 1)).toList, by simp [Builtin.zeroCells], ?_⟩
    have hone : ∀ u ∈ (Builtin.zeroCells z.cells (n + 1)).toList, u.oneCell' = true := fun u hu => by
      simp only [Builtin.zeroCells, Array.toList_map, List.mem_map] at hu
      obtain ⟨k, hk, rfl⟩ := hu
      have hk2 : k < (n + 1) * z.cells.size := by simpa using hk
      have hpos : 0 < z.cells.size := by
        rcases Nat.eq_zero_or_pos z.cells.size with h0 | h0
        · rw [h0] at hk2; omega
        · exact h0
      refine h1 _ ?_
      simp only [Builtin.zeroCells, Array.toList_map, List.mem_map]
      refine ⟨k % z.cells.size, by simp [Nat.mod_lt _ hpos], by rw [Nat.mod_mod]⟩
    have hst := run_storeCells_at P g off te (Builtin.zeroCells z.cells (n + 1)).toList 0 cs.toArray w hg (by simp [Builtin.zeroCells]; omega) hone
    simp only [Nat.add_zero] at hst
    have hov : cs.take off ++ (Builtin.zeroCells z.cells (n + 1)).toList ++ cs.drop (off + (Builtin.zeroCells z.cells (n + 1)).toList.length) = over cs off (Builtin.zeroCells z.cells (n + 1)).toList := by simp [over]
    simp [Builtin.clear_, run_underlying ht, zeroValue, typeInfo, hi, hz, hst, over]
theorem wpList_clear {w : World} {ops : Array Oper} {rest : List Oper} {o : Oper} {a : Act} {Q : Exit → Act → World → Prop} (hgd : o.guard = none) (s : Operand) (t : TypeId)
    (ho : o.op = .call { callee := .builtin .clear, args := #[s], argTypes := #[t] }) (e : TypeId) (i : TypeInfo) (z : Value) (ht : P.underlying t = some (.slice e)) (hi : P.info? e = some i) (hz : i.zero = some z) (h1 : ∀ u ∈ (Builtin.zeroCells z.cells 1).toList, u.oneCell' = true) (g off n c : Nat) (cs : List Value) (te : TypeId)
    (hs : a.eval s = .slice (some ⟨g, off, none⟩) n c) (hg : w.heap[g]? = some (.cells cs.toArray te (0, 0))) (hfit : off + n * z.cells.size ≤ cs.length)
    (h : ∀ vs : List Value, vs.length = n * z.cells.size → wpList P ops Q rest (a.put o.dst (.tuple #[])) (w.setRow g (over cs off vs).toArray)) : wpList P ops Q (o :: rest) a w := by
  refine wpList_plain hgd fun K hK => ?_
  obtain ⟨vs, hl, hr⟩ := run_clear_row (P := P) w t o.type e i z ht hi hz h1 g off n c cs te hg hfit
  unfold Oper.wp execOp
  simp only [ho, resolve, invoke, builtin, Sem.run_bind, Sem.run_pure, Result.andThen_ok, List.map_toArray, List.map_cons, List.map_nil, hs, hr]
  exact hK _ _ (h vs hl)
theorem wpList_clear0 {w : World} {ops : Array Oper} {rest : List Oper} {o : Oper} {a : Act} {Q : Exit → Act → World → Prop} (hgd : o.guard = none) (s : Operand) (t : TypeId)
    (ho : o.op = .call { callee := .builtin .clear, args := #[s], argTypes := #[t] }) (e : TypeId) (ht : P.underlying t = some (.slice e)) (A : Option Addr) (n c : Nat)
    (hs : a.eval s = .slice A n c) (hn : n = 0)
    (h : wpList P ops Q rest (a.put o.dst (.tuple #[])) w) : wpList P ops Q (o :: rest) a w := by
  subst hn
  refine wpList_plain hgd fun K hK => ?_
  have hr : (Builtin.clear_ #[t] o.type #[.slice A 0 c]).run P w = .ok (.tuple #[]) w := by cases A <;> simp [Builtin.clear_, run_underlying ht]
  unfold Oper.wp execOp
  simp only [ho, resolve, invoke, builtin, Sem.run_bind, Sem.run_pure, Result.andThen_ok, List.map_toArray, List.map_cons, List.map_nil, hs, hr]
  exact hK _ _ h
/-- An own row cut, of which what lies behind the cut was written over. -/
theorem row_cut_over {w : World} {B e size n m g c : Nat} {xs : List Value} (h : w.ownsRow B e size (.slice (some ⟨g, 0, none⟩) n c) n xs) (hm : m ≤ n) :
    ∃ cur : List Value, w.heap[g]? = some (.cells cur.toArray e (0, 0)) ∧ n * size ≤ cur.length ∧ ∀ vs : List Value, m * size + vs.length ≤ cur.length → (w.setRow g (over cur (m * size) vs).toArray).ownsRow B e size (.slice (some ⟨g, 0, none⟩) m c) m (xs.take (m * size)) := by
  have hl := h.1
  have hms : m * size ≤ n * size := Nat.mul_le_mul_right _ hm
  rcases h.2 with ⟨hv, _⟩ | ⟨g', cap, cur, hv, hb, hg, hnc, hcm, hcs, ht⟩
  · cases hv
  · simp only [Value.slice.injEq, Option.some.injEq, Addr.mk.injEq, true_and, and_true] at hv
    obtain ⟨rfl, rfl⟩ := hv
    have hlen : n * size ≤ cur.toList.length := by rw [Array.length_toList, hcs]; exact Nat.mul_le_mul_right _ hnc
    refine ⟨cur.toList, by simpa using hg, hlen, fun vs hfit => ⟨by rw [List.length_take]; omega, .inr ⟨g, c, _, rfl, hb, setRow_heap w g cur _ e _ hg, by omega, hcm, ?_, ?_⟩⟩⟩
    · have e1 : (over cur.toList (m * size) vs).length = cur.toList.length := by
        simp only [over, List.length_append, List.length_take, List.length_drop]
        omega
      rw [List.size_toArray, e1, Array.length_toList, hcs]
    · simp only [over]
      rw [← ht, List.take_append, List.take_take, List.take_take]
      have hA : (cur.toList.take (m * size)).length = m * size := by rw [List.length_take]; omega
      rw [hA, Nat.sub_self, List.take_zero, List.append_nil, Nat.min_self, Nat.min_eq_left hms]
end

section
variable {P : Program} {o : Oper} {a : Act}
theorem run_slLo (w : World) {x ix : Operand} {t : TypeId} (ho : o.op = .slice t x (some ix) none none) (A : Option Addr) (n c k sz : Nat) (e : TypeId) (hx : a.eval x = .slice A n c) (hi : a.eval ix = .int .i64 k) (hk : k ≤ n)
    (hu : P.underlying t = some (.slice e)) (hs : (P.info? e).map (·.size) = some sz) : (execOp a.eval o).run P w = .ok (.value (.slice (if c = k then A else A.map (·.add (k * sz))) (n - k) (c - k))) w := by
  cases hq : P.info? e with
  | none => simp [hq] at hs
  | some i =>
    have his : i.size = sz := by simpa [hq] using hs
    have hk2 : (0 : Int) ≤ (k : Int) ∧ (k : Int) ≤ n := by omega
    simp [execOp, ho, hx, hi, Instr.sliceAt, Instr.slice, Instr.sliceBounds, Instr.sliceBound, run_underlying hu, asIntOf, sizeOf, typeInfo, hq, his, hk2, hk]
theorem run_slHi (w : World) {x ix : Operand} {t : TypeId} (ho : o.op = .slice t x none (some ix) none) (A : Option Addr) (n c k sz : Nat) (e : TypeId) (hx : a.eval x = .slice A n c) (hA : A = none ∨ ∃ g, A = some ⟨g, 0, none⟩) (hi : a.eval ix = .int .i64 k) (hk : k ≤ c)
    (hu : P.underlying t = some (.slice e)) (hs : (P.info? e).map (·.size) = some sz) : (execOp a.eval o).run P w = .ok (.value (.slice A k c)) w := by
  cases hq : P.info? e with
  | none => simp [hq] at hs
  | some i =>
    have his : i.size = sz := by simpa [hq] using hs
    have hk2 : (0 : Int) ≤ (k : Int) ∧ (k : Int) ≤ c := by omega
    have hA2 : A.map (·.add 0) = A := by
      rcases hA with rfl | ⟨g, rfl⟩
      · rfl
      · simp only [Option.map_some, Addr.add_lit]
    simp [execOp, ho, hx, hi, Instr.sliceAt, Instr.slice, Instr.sliceBounds, Instr.sliceBound, run_underlying hu, asIntOf, sizeOf, typeInfo, hq, his, hk2, hk, hA2]
theorem run_ld1 (w : World) {x : Operand} {ty : TypeId} (ho : o.op = .load ty x) (p : Addr) (v : Value) (hx : a.eval x = .pointer (some p)) {d : TypeDesc} (hu : P.underlying ty = some d) (hd : aggD d = false) (hc : w.cell? p = some v) : (execOp a.eval o).run P w = .ok (.value v) w := by
  have hagg : (isAgg ty).run P w = .ok false w := by
    unfold isAgg
    rw [Sem.run_bind, run_underlying hu w]
    cases d <;> simp_all [aggD]
  simp [execOp, ho, hx, Instr.loadAt, Instr.sureAddr, loadVar, Sem.run_bind, hagg, hc]
end

section
variable {P : Program} {ops : Array Oper} {md : Region.Mode} {W0 W1 : World} {p : Nat}
/-- It reads, in both worlds alike; or it is p and makes the second world out of the first. -/
def YM (P : Program) (ops : Array Oper) (W0 W1 : World) (p i : Nat) (o : Oper) (v : Value) (a : Act) : Prop :=
  (Region.wanted o (yielded ops a.tmps) = true ∧ (execOp a.eval o).run P W0 = .ok (.value v) (if i = p then W1 else W0) ∧ (i ≠ p → (execOp a.eval o).run P W1 = .ok (.value v) W1)) ∨ (Region.wanted o (yielded ops a.tmps) = false ∧ v = undef ∧ i ≠ p) ∨ (Region.wanted o (yielded ops a.tmps) = true ∧ v = undef ∧ i = p ∧ (execOp a.eval o).run P W0 = .ok .skip W1)
theorem YM.of_put {i : Nat} {o : Oper} {v : Value} {a : Act} {d : Option Tmp} {u : Value} (hs : ∀ cs b, o.op ≠ .select cs b) (h : ∀ t, d = some t → t ∉ o.looksAt ops) : YM P ops W0 W1 p i o v (a.put d u) ↔ YM P ops W0 W1 p i o v a := by
  unfold YM
  rw [execOp_put o hs a d u h, wanted_put o a d u h]
theorem YM.wp {o : Oper} {i : Nat} {v : Value} {a : Act} {b : Bool} (hi : ops[i]? = some o) (hy : YM P ops W0 W1 p i o v a) (hb : i = p → b = false) {K : Act → World → Prop} {Q : Exit → Act → World → Prop} (h : K (a.put o.dst v) (if b || decide (i = p) then W1 else W0)) : wpOp P ops Q i K a (if b then W1 else W0) := by
  unfold wpOp
  simp only [hi]
  rcases hy with ⟨h1, h2, h3⟩ | ⟨h1, rfl, h3⟩ | ⟨h1, rfl, hip, h2⟩
  · rw [if_pos h1]
    left
    unfold Oper.wp
    by_cases hip : i = p
    · rw [hb hip] at h ⊢
      rw [if_pos hip] at h2
      simp only [Bool.false_eq_true, if_false, Bool.false_or, hip, decide_true, if_true] at h ⊢
      rw [h2]
      exact h
    · rw [if_neg hip] at h2
      simp only [hip, decide_false, Bool.or_false] at h
      cases b
      · simp only [Bool.false_eq_true, if_false] at h ⊢
        rw [h2]
        exact h
      · simp only [if_true] at h ⊢
        rw [h3 hip]
        exact h
  · rw [h1]
    simp only [h3, decide_false, Bool.or_false] at h
    exact h
  · rw [if_pos h1]
    left
    unfold Oper.wp
    rw [hb hip] at h ⊢
    simp only [Bool.false_eq_true, if_false, Bool.false_or, hip, decide_true, if_true] at h ⊢
    rw [h2]
    exact h
def anySeqM (P : Program) (md : Region.Mode) (ops : Array Oper) (W0 W1 : World) (p : Nat) (K : Array Bool → Act → Prop) : Nat → Array Bool → Act → Prop
  | 0, listed, a => K listed a
  | m + 1, listed, a => ∀ i ∈ Region.ready md ops listed, ∃ o v, ops[i]? = some o ∧ YM P ops W0 W1 p i o v a ∧ anySeqM P md ops W0 W1 p K m (listed.setIfInBounds i true) (a.put o.dst v)
theorem getD_ff {listed : Array Bool} {i : Nat} (h : listed.getD i true = false) : listed.getD i false = false ∧ i < listed.size := by
  rcases Nat.lt_or_ge i listed.size with h' | h'
  · refine ⟨?_, h'⟩
    simp [h'] at h ⊢
    exact h
  · simp [Array.getElem?_eq_none h'] at h
theorem anySeqM_sound {K : Array Bool → Act → Prop} {Q : Exit → Act → World → Prop} {ks : List Nat} {t : Nat} (hp : p ∈ ks) (hK : ∀ listed a, K listed a → wpAny P md ops Q t listed a W1) :
    ∀ (m : Nat) (listed : Array Bool) (a : Act), onlyB md ops ks m listed = true → anySeqM P md ops W0 W1 p K m listed a → wpAny P md ops Q (m + t) listed a (if listed.getD p false then W1 else W0)
  | 0, listed, a, ho, h => by
    unfold onlyB at ho
    rw [List.all_eq_true.1 ho p hp, if_pos rfl, Nat.zero_add]
    exact hK listed a h
  | m + 1, listed, a, ho, h => by
    obtain ⟨h1, h2⟩ := onlyB_succ ho
    rw [show m + 1 + t = m + t + 1 by omega]
    refine ⟨fun e => absurd e h1, fun i hi => ?_⟩
    obtain ⟨o, v, hio, hy, hk⟩ := h i hi
    obtain ⟨hif, hil⟩ := getD_ff (mem_ready.1 hi).1
    refine hy.wp (b := listed.getD p false) hio (fun e => by rw [← e]; exact hif) ?_
    have := anySeqM_sound hp hK m _ _ (h2 i hi).2 hk
    by_cases hip : i = p
    · subst hip
      have e1 : (listed.setIfInBounds i true).getD i false = true := by rw [getD_set _ _ _ hil, if_pos rfl]
      rw [e1, if_pos rfl] at this
      simp only [decide_true, Bool.or_true, if_true]
      exact this
    · rw [getD_set_ne false hip] at this
      simp only [hip, decide_false, Bool.or_false]
      exact this
theorem anySeqM_first {K : Array Bool → Act → Prop} {i : Nat} {oi : Oper} {v : Value} {ks : List Nat} (hi : ops[i]? = some oi) (hsel : ∀ (j : Nat) (o : Oper) cs b, ops[j]? = some o → o.op ≠ .select cs b) :
    ∀ (m : Nat) (listed : Array Bool) (a : Act), onlyB md ops ks (m + 1) listed = true →
      (∀ j oj, ops[j]? = some oj → j ≠ i → listed.getD j true = false → (∀ e ∈ oj.after, Region.binds md e = true → e.on ≠ i) → oi.apart ops oj = true) →
      i ∈ Region.ready md ops listed → YM P ops W0 W1 p i oi v a → anySeqM P md ops W0 W1 p K m (listed.setIfInBounds i true) (a.put oi.dst v) → anySeqM P md ops W0 W1 p K (m + 1) listed a := by
  intro m
  induction m with
  | zero =>
    intro listed a ho _ hr hy H j hj
    by_cases hji : j = i
    · subst hji; exact ⟨oi, v, hi, hy, H⟩
    · exfalso
      obtain ⟨_, h2⟩ := onlyB_succ ho
      have h3 := (h2 i hr).2
      unfold onlyB at h3
      have h4 := List.all_eq_true.1 h3 j (h2 j hj).1
      rw [getD_set_ne false (Ne.symm hji)] at h4
      have h5 := (mem_ready.1 hj).1
      rcases Nat.lt_or_ge j listed.size with h' | h'
      · simp [h'] at h4 h5; rw [h4] at h5; cases h5
      · simp [Array.getElem?_eq_none h'] at h4
  | succ m ih =>
    intro listed a ho hfree hr hy H j hj
    by_cases hji : j = i
    · subst hji; exact ⟨oi, v, hi, hy, H⟩
    · obtain ⟨oj, u, hoj, hyj, hkj⟩ := H j (ready_mono hj hji)
      obtain ⟨hjun, oj', hoj', hall⟩ := mem_ready.1 hj
      obtain rfl : oj' = oj := Option.some.inj (hoj'.symm.trans hoj)
      have hnot : ∀ e ∈ oj'.after, Region.binds md e = true → e.on ≠ i := fun e he hb heq => by
        have h1 := hall e he hb
        have h0 := (mem_ready.1 hr).1
        rw [heq] at h1
        rcases Nat.lt_or_ge i listed.size with h' | h'
        · simp [h'] at h0 h1; rw [h0] at h1; cases h1
        · simp [Array.getElem?_eq_none h'] at h1
      obtain ⟨a1, a2, a3⟩ := Oper.apart_spec (hfree j oj' hoj hji hjun hnot)
      have hfree' : ∀ k ok, ops[k]? = some ok → k ≠ i → (listed.setIfInBounds j true).getD k true = false →
          (∀ e ∈ ok.after, Region.binds md e = true → e.on ≠ i) → oi.apart ops ok = true := fun k ok hk hki hun hno => by
        refine hfree k ok hk hki ?_ hno
        by_cases hjk : j = k
        · subst hjk; exact hjun
        · rw [getD_set_ne true hjk] at hun; exact hun
      refine ⟨oj', u, hoj, (YM.of_put (hsel j oj' · · hoj) a1).1 hyj, ih (listed.setIfInBounds j true) (a.put oj'.dst u) ((onlyB_succ ho).2 j hj).2 hfree' (ready_mono hr (Ne.symm hji)) ((YM.of_put (hsel i oi · · hi) a3).2 hy) ?_⟩
      rw [Array.setIfInBounds_comm _ _ hji, Act.put_comm a u v (fun d hd e => a2 d e hd)]
      exact hkj
/-- The walk in the order of ks. -/
def wpM (P : Program) (ops : Array Oper) (W0 W1 : World) (p : Nat) (Q : Act → Prop) : List Nat → List Oper → Act → Prop
  | k :: ks, o :: l, a => ∃ v, YM P ops W0 W1 p k o v a ∧ wpM P ops W0 W1 p Q ks l (a.put o.dst v)
  | _, _, a => Q a
theorem anySeqM_lex {Q : Act → Prop} {ks0 : List Nat} (hs : Region.noSelect ops = true) : ∀ (ks : List Nat) (l : List Oper) (listed : Array Bool) (a : Act), (ks.map fun k => ops[k]?) = l.map some →
    seqB md ops ks listed = true → onlyB md ops ks0 ks.length listed = true → wpM P ops W0 W1 p Q ks l a → anySeqM P md ops W0 W1 p (fun L a' => L = ks.foldl (fun L k => L.setIfInBounds k true) listed ∧ Q a') ks.length listed a
  | [], [], _, _, _, _, _, h => ⟨rfl, h⟩
  | [], o :: l, _, _, hl, _, _, _ => by simp at hl
  | k :: ks, [], _, _, hl, _, _, _ => by simp at hl
  | k :: ks, o :: l, listed, a, hl, hB, ho, h => by
    simp only [List.map_cons, List.cons.injEq] at hl
    simp only [seqB, Bool.and_eq_true, List.contains_iff_mem] at hB
    obtain ⟨⟨hr, hf⟩, hB'⟩ := hB
    obtain ⟨v, hy, hK⟩ := h
    exact anySeqM_first hl.1 (Region.noSelect_spec hs) ks.length listed a ho (Region.free_spec hl.1 hf) hr hy
      (anySeqM_lex hs ks l _ _ hl.2 hB' ((onlyB_succ ho).2 k hr).2 hK)
/-- The operations ks by one walk; then the rest. -/
theorem any_seqM {Q : Exit → Act → World → Prop} {a : Act} {listed : Array Bool} {t : Nat} (p : Nat) (W1 : World) (ks : List Nat) (l : List Oper) (hns : Region.noSelect ops = true) (hl : (ks.map fun k => ops[k]?) = l.map some)
    (hs : seqB md ops ks listed = true) (ho : onlyB md ops ks ks.length listed = true) (hp : ks.contains p = true) (hlp : listed.getD p false = false)
    (h : wpM P ops W0 W1 p (fun a' => wpAny P md ops Q t (ks.foldl (fun L k => L.setIfInBounds k true) listed) a' W1) ks l a) : wpAny P md ops Q (ks.length + t) listed a W0 := by
  have := anySeqM_sound (ks := ks) (W0 := W0) (W1 := W1) (p := p) (by simpa using hp) (fun L a' hk => by obtain ⟨rfl, hq⟩ := hk; exact hq) ks.length listed a ho (anySeqM_lex hns ks l listed a hl hs ho h)
  rw [hlp] at this
  exact this
end
section
variable {P : Program} {ops : Array Oper} {W0 W1 : World} {p : Nat} {Q : Act → Prop} {k : Nat} {ks : List Nat} {o : Oper} {l : List Oper} {a : Act} {v : Value}
theorem m_read (hw : Region.wanted o (yielded ops a.tmps) = true) (hk : k ≠ p) (h0 : (execOp a.eval o).run P W0 = .ok (.value v) W0) (h1 : (execOp a.eval o).run P W1 = .ok (.value v) W1) (h : wpM P ops W0 W1 p Q ks l (a.put o.dst v)) : wpM P ops W0 W1 p Q (k :: ks) (o :: l) a :=
  ⟨v, .inl ⟨hw, by rw [if_neg hk]; exact h0, fun _ => h1⟩, h⟩
theorem m_make (hw : Region.wanted o (yielded ops a.tmps) = true) (h0 : (execOp a.eval o).run P W0 = .ok (.value v) W1) (h : wpM P ops W0 W1 p Q ks l (a.put o.dst v)) : wpM P ops W0 W1 p Q (p :: ks) (o :: l) a :=
  ⟨v, .inl ⟨hw, by rw [if_pos rfl]; exact h0, fun e => absurd rfl e⟩, h⟩
theorem m_store (hw : Region.wanted o (yielded ops a.tmps) = true) (h0 : (execOp a.eval o).run P W0 = .ok .skip W1) (h : wpM P ops W0 W1 p Q ks l (a.put o.dst undef)) : wpM P ops W0 W1 p Q (p :: ks) (o :: l) a :=
  ⟨undef, .inr (.inr ⟨hw, rfl, rfl, h0⟩), h⟩
theorem m_norm {a' : Act} (h : a = a') (hk : wpM P ops W0 W1 p Q ks l a') : wpM P ops W0 W1 p Q ks l a := h ▸ hk
theorem m_nil (h : Q a) : wpM P ops W0 W1 p Q [] [] a := h
end
end Go.Proofs.YtnkcfkjeeennmaaGreatDoor
