/- bits.TrailingZeros64 of a number not zero; of a count's complement it is the number of low ones. From a state within a region that draws its order: operations that keep a law on worlds and that alone may come up until each has, walked once in one order; then the rest. Nothing of the program. Steps of a region that draws its order, one branch for each order: for regions where an operation makes a block whose number hangs on the order. Nothing of the program. What DecodeQuery holds when a leaf is appended; the steps that region 24 wants. clear of a part of an own row. Nothing of the program. Slices of slices, as operations. Nothing of the program. From a state within a region that draws its order: operations that read, and ONE (p) that makes something out of nothing they read, walked once in one order; then the rest. Nothing of the program. emit.Add by contract. -/
import Derived.Test.YtnkcfkjeeennmaaGreatDoorTree
import Derived.Test.YtnkcfkjeeennmaaGreatDoorShaU
import Derived.Shelf.Spec.TrailingZeros
import Derived.Test.YtnkcfkjeeennmaaGreatDoorHRow
import Derived.Deep.CutRange
namespace Go.Proofs.YtnkcfkjeeennmaaGreatDoor
open Go.RowKit Go.Lib


theorem ctz_ones : ∀ (f n : Nat), n + 1 < 2 ^ f → Lib.ctzFrom f (2 ^ f - 1 - n) = ones n := by
  intro f
  induction f with
  | zero => intro n h; simp at h
  | succ f ih =>
    intro n h
    have e : 2 ^ (f + 1) = 2 * 2 ^ f := by rw [Nat.pow_succ]; omega
    unfold Lib.ctzFrom
    by_cases ho : n % 2 = 1
    · rw [if_neg (by omega), ones_odd ho, show (2 ^ (f + 1) - 1 - n) / 2 = 2 ^ f - 1 - n / 2 by omega, ih (n / 2) (by omega)]
      omega
    · rw [if_pos (by omega), ones_even ho]
theorem ctz_compl (n : Nat) (h : n + 1 < 18446744073709551616) : Lib.ctz 64 (18446744073709551615 - n) = ones n := by
  unfold Lib.ctz
  rw [if_neg (by omega)]
  exact ctz_ones 64 n h
set_option maxRecDepth 20000 in
set_option maxHeartbeats 1000000 in
theorem ctz_core (x k idx : Nat) (w : World) (hx0 : ((x : Int) == 0) = false)
    (key : IntKind.u64.wrap (bits BinOp.and IntKind.u64 (x : Int) (IntKind.u64.wrap (-(x : Int))) * 285870213051353865) / 288230376151711744 = (idx : Int))
    (hi : idx < 64) (hk : k < 64) (hcell : w.cell? ⟨20, idx, none⟩ = some (.int .u8 k)) :
    Calls Tryz.prog 145 #[.int .u64 x] w fun e w' => e = .returned (.int .i64 k) ∧ w = w' := by
  have hii : ((idx : Nat) : Int) < 64 := by omega
  have hkk : (k : Int) < 64 := by omega
  go_enter Tryz.func145, Tryz.ntmps145
  go_wp2_with (simp only [key])
  go_ret
  exact ⟨rfl, rfl⟩
theorem ctz_any (x : Nat) (hx0 : x ≠ 0) (hx : x < 18446744073709551616) (w : World) (hT : TabAt 20 Lib.deBruijn64tab w) :
    Calls Tryz.prog 145 #[.int .u64 x] w fun e w' => e = .returned (.int .i64 (Lib.ctz 64 x)) ∧ w = w' := by
  obtain ⟨hlow, hk⟩ := Lib.lowest_bit 64 x hx0 hx
  obtain ⟨hi, htab⟩ := Lib.deBruijn64_at _ hk
  have hcell := hT _ hi
  rw [htab] at hcell
  exact ctz_core x _ _ w (by simp; omega) (tz64_key x _ hx hx0 hlow) hi hk hcell
theorem tabAt_ext {g : Nat} {tab : List Nat} {w w' : World} (h : TabAt g tab w) (u : Ext w w') : TabAt g tab w' := fun j hj => Ext.cellv u (h j hj)

section
variable {P : Program} {ops : Array Oper} {md : Region.Mode} {I : World → Prop}
/-- Until all of ks are listed none but they may come up. -/
def onlyB (md : Region.Mode) (ops : Array Oper) (ks : List Nat) : Nat → Array Bool → Bool
  | 0, listed => ks.all fun k => listed.getD k false
  | m + 1, listed => !(Region.ready md ops listed).isEmpty && (Region.ready md ops listed).all fun i => ks.contains i && onlyB md ops ks m (listed.setIfInBounds i true)
def seqB (md : Region.Mode) (ops : Array Oper) : List Nat → Array Bool → Bool
  | [], _ => true
  | k :: ks, listed => (Region.ready md ops listed).contains k && Region.free md ops listed k && seqB md ops ks (listed.setIfInBounds k true)
def anySeq (P : Program) (md : Region.Mode) (ops : Array Oper) (I : World → Prop) (K : Array Bool → Act → Prop) : Nat → Array Bool → Act → Prop
  | 0, listed, a => K listed a
  | m + 1, listed, a => ∀ i ∈ Region.ready md ops listed, ∃ o v, ops[i]? = some o ∧ InvYields P ops I o v a ∧ anySeq P md ops I K m (listed.setIfInBounds i true) (a.put o.dst v)
theorem onlyB_succ {ks : List Nat} {m : Nat} {listed : Array Bool} (h : onlyB md ops ks (m + 1) listed = true) : Region.ready md ops listed ≠ [] ∧ ∀ i ∈ Region.ready md ops listed, i ∈ ks ∧ onlyB md ops ks m (listed.setIfInBounds i true) = true := by
  unfold onlyB at h
  simp only [Bool.and_eq_true, Bool.not_eq_true', List.isEmpty_eq_false_iff, List.all_eq_true, List.contains_iff_mem] at h
  exact h
theorem anySeq_sound {K : Array Bool → Act → Prop} {Q : Exit → Act → World → Prop} {ks : List Nat} {t : Nat} (hK : ∀ listed a w, K listed a → I w → wpAny P md ops Q t listed a w) :
    ∀ (m : Nat) (listed : Array Bool) (a : Act), onlyB md ops ks m listed = true → anySeq P md ops I K m listed a → ∀ w, I w → wpAny P md ops Q (m + t) listed a w
  | 0, listed, a, _, h, w, hw => by rw [Nat.zero_add]; exact hK listed a w h hw
  | m + 1, listed, a, ho, h, w, hw => by
    obtain ⟨h1, h2⟩ := onlyB_succ ho
    rw [show m + 1 + t = m + t + 1 by omega]
    refine ⟨fun e => absurd e h1, fun i hi => ?_⟩
    obtain ⟨o, v, hio, hy, hk⟩ := h i hi
    exact hy.wp hio hw fun w' hw' => anySeq_sound hK m _ _ (h2 i hi).2 hk w' hw'
theorem anySeq_first {K : Array Bool → Act → Prop} {i : Nat} {oi : Oper} {v : Value} {ks : List Nat} (hi : ops[i]? = some oi) (hsel : ∀ (j : Nat) (o : Oper) cs b, ops[j]? = some o → o.op ≠ .select cs b) :
    ∀ (m : Nat) (listed : Array Bool) (a : Act), onlyB md ops ks (m + 1) listed = true →
      (∀ j oj, ops[j]? = some oj → j ≠ i → listed.getD j true = false → (∀ e ∈ oj.after, Region.binds md e = true → e.on ≠ i) → oi.apart ops oj = true) →
      i ∈ Region.ready md ops listed → InvYields P ops I oi v a → anySeq P md ops I K m (listed.setIfInBounds i true) (a.put oi.dst v) → anySeq P md ops I K (m + 1) listed a := by
  intro m
  induction m with
  | zero =>
    intro listed a ho _ hr hy H j hj
    by_cases hji : j = i
    · subst hji; exact ⟨oi, v, hi, hy, H⟩
    · exfalso
      obtain ⟨_, h2⟩ := onlyB_succ ho
      have h3 := (h2 i hr).2
      unfold onlyB at h3
      have h4 := List.all_eq_true.1 h3 j (h2 j hj).1
      rw [getD_set_ne false (Ne.symm hji)] at h4
      have h5 := (mem_ready.1 hj).1
      rcases Nat.lt_or_ge j listed.size with h' | h'
      · simp [h'] at h4 h5; rw [h4] at h5; cases h5
      · simp [Array.getElem?_eq_none h'] at h4
  | succ m ih =>
    intro listed a ho hfree hr hy H j hj
    by_cases hji : j = i
    · subst hji; exact ⟨oi, v, hi, hy, H⟩
    · obtain ⟨oj, u, hoj, hyj, hkj⟩ := H j (ready_mono hj hji)
      obtain ⟨hjun, oj', hoj', hall⟩ := mem_ready.1 hj
      obtain rfl : oj' = oj := Option.some.inj (hoj'.symm.trans hoj)
      have hnot : ∀ e ∈ oj'.after, Region.binds md e = true → e.on ≠ i := fun e he hb heq => by
        have h1 := hall e he hb
        have h0 := (mem_ready.1 hr).1
        rw [heq] at h1
        rcases Nat.lt_or_ge i listed.size with h' | h'
        · simp [h'] at h0 h1; rw [h0] at h1; cases h1
        · simp [Array.getElem?_eq_none h'] at h1
      obtain ⟨a1, a2, a3⟩ := Oper.apart_spec (hfree j oj' hoj hji hjun hnot)
      have hfree' : ∀ k ok, ops[k]? = some ok → k ≠ i → (listed.setIfInBounds j true).getD k true = false →
          (∀ e ∈ ok.after, Region.binds md e = true → e.on ≠ i) → oi.apart ops ok = true := fun k ok hk hki hun hno => by
        refine hfree k ok hk hki ?_ hno
        by_cases hjk : j = k
        · subst hjk; exact hjun
        · rw [getD_set_ne true hjk] at hun; exact hun
      refine ⟨oj', u, hoj, (InvYields.of_put (hsel j oj' · · hoj) a1).1 hyj, ih (listed.setIfInBounds j true) (a.put oj'.dst u) ((onlyB_succ ho).2 j hj).2 hfree' (ready_mono hr (Ne.symm hji)) ((InvYields.of_put (hsel i oi · · hi) a3).2 hy) ?_⟩
      rw [Array.setIfInBounds_comm _ _ hji, Act.put_comm a u v (fun d hd e => a2 d e hd)]
      exact hkj
theorem anySeq_lex {Q : Act → Prop} {ks0 : List Nat} (hs : Region.noSelect ops = true) : ∀ (ks : List Nat) (l : List Oper) (listed : Array Bool) (a : Act), (ks.map fun k => ops[k]?) = l.map some →
    seqB md ops ks listed = true → onlyB md ops ks0 ks.length listed = true → wpInv P ops I Q l a → anySeq P md ops I (fun L a' => L = ks.foldl (fun L k => L.setIfInBounds k true) listed ∧ Q a') ks.length listed a
  | [], [], _, _, _, _, _, h => ⟨rfl, h⟩
  | [], o :: l, _, _, hl, _, _, _ => by simp at hl
  | k :: ks, [], _, _, hl, _, _, _ => by simp at hl
  | k :: ks, o :: l, listed, a, hl, hB, ho, h => by
    simp only [List.map_cons, List.cons.injEq] at hl
    simp only [seqB, Bool.and_eq_true, List.contains_iff_mem] at hB
    obtain ⟨⟨hr, hf⟩, hB'⟩ := hB
    obtain ⟨v, hy, hK⟩ := h
    exact anySeq_first hl.1 (Region.noSelect_spec hs) ks.length listed a ho (Region.free_spec hl.1 hf) hr hy
      (anySeq_lex hs ks l _ _ hl.2 hB' ((onlyB_succ ho).2 k hr).2 hK)
/-- The operations ks by one walk; then the rest. -/
theorem any_seq {Q : Exit → Act → World → Prop} {a : Act} {w : World} {listed : Array Bool} {t : Nat} (ks : List Nat) (l : List Oper) (I : World → Prop) (hns : Region.noSelect ops = true) (hl : (ks.map fun k => ops[k]?) = l.map some)
    (hs : seqB md ops ks listed = true) (ho : onlyB md ops ks ks.length listed = true) (hI : I w)
    (h : wpInv P ops I (fun a' => ∀ w', I w' → wpAny P md ops Q t (ks.foldl (fun L k => L.setIfInBounds k true) listed) a' w') l a) : wpAny P md ops Q (ks.length + t) listed a w :=
  anySeq_sound (ks := ks) (fun L a' w' hk hw' => by obtain ⟨rfl, hq⟩ := hk; exact hq w' hw') ks.length listed a ho (anySeq_lex hns ks l listed a hl hs ho h) w hI
end

section
variable {P : Program} {ops : Array Oper} {Q : Exit → Act → World → Prop} {n : Nat} {listed : Array Bool} {a : Act} {w : World}
theorem any1 (i : Nat) (hr : Region.ready .any ops listed = [i]) (h : wpOp P ops Q i (wpAny P .any ops Q n (listed.setIfInBounds i true)) a w) : wpAny P .any ops Q (n + 1) listed a w :=
  wpAny_all hr (by simp) (fun j hj => by rw [List.mem_singleton.1 hj]; exact h)
variable {i : Nat} {o : Oper} {K : Act → World → Prop}
theorem op_val {v : Value} {w' : World} (hi : ops[i]? = some o) (hw : Region.wanted o (yielded ops a.tmps) = true) (hr : (execOp a.eval o).run P w = .ok (.value v) w') (h : K (a.put o.dst v) w') : wpOp P ops Q i K a w := by
  unfold wpOp
  simp only [hi]
  rw [if_pos hw]
  left
  unfold Oper.wp
  rw [hr]
  exact h
theorem op_callf (hi : ops[i]? = some o) (hw : Region.wanted o (yielded ops a.tmps) = true) (f : FuncId) (args : List Operand) (ts : Array TypeId)
    (ho : o.op = .call { callee := .value (.func f), args := args.toArray, argTypes := ts }) (hb : hasBody P f = true) (vals : List Value) (hv : args.map a.eval = vals) {R : Value → World → Prop}
    (C : Calls P f vals.toArray w fun e w' => ∃ v, e = .returned v ∧ R v w') (h : ∀ v w', R v w' → K (a.put o.dst v) w') : wpOp P ops Q i K a w := by
  unfold wpOp
  simp only [hi]
  rw [if_pos hw]
  left
  have := step_call (Q := Q) (E := True) hw f args ts ho hb vals hv C h
  rwa [if_pos hw] at this
theorem op_storeAgg (hi : ops[i]? = some o) (hw : Region.wanted o (yielded ops a.tmps) = true) (ty : TypeId) (x y : Operand) (ho : o.op = .store ty x y)
    (g : Nat) (hx : a.eval x = .pointer (some ⟨g, 0, none⟩)) (vs : List Value) (hy : a.eval y = .agg vs.toArray) (hs : (P.info? ty).map (·.size) = some vs.length)
    (cs : List Value) (t : TypeId) (hg : w.heap[g]? = some (.cells cs.toArray t (0, 0))) (hfit : cs.length = vs.length) (h1 : ∀ u ∈ vs, u.oneCell' = true)
    (h : K (a.put o.dst undef) (w.setRow g vs.toArray)) : wpOp P ops Q i K a w := by
  unfold wpOp
  simp only [hi]
  rw [if_pos hw]
  left
  have hst := run_storeCells_at P g 0 t vs 0 cs.toArray w hg (by simp; omega) h1
  cases hq : P.info? ty with
  | none => simp [hq] at hs
  | some it =>
    have hss : it.size = vs.length := by simpa [hq] using hs
    have hov : vs ++ List.drop vs.length cs = vs := by rw [List.drop_eq_nil_of_le (by omega), List.append_nil]
    simp only [Nat.add_zero, Nat.zero_add] at hst
    unfold Oper.wp execOp
    simp [ho, hx, hy, Instr.storeAt, Instr.sureAddr, storeVar, sizeOf, typeInfo, hq, hss, Value.cells, hst, hov]
    exact h
end

section
variable {P : Program} {ops : Array Oper} {Q : Exit → Act → World → Prop} {a : Act} {w : World} {i : Nat} {o : Oper} {K : Act → World → Prop}
theorem any_normQ {md : Region.Mode} {n : Nat} {listed : Array Bool} {a' : Act} (h : a = a') (hk : wpAny P md ops Q n listed a' w) : wpAny P md ops Q n listed a w := h ▸ hk
theorem op_build1Q (hi : ops[i]? = some o) (hw : Region.wanted o (yielded ops a.tmps) = true) (t e : TypeId) (y : Operand) (ho : o.op = .buildSlice t 1 #[(0, y)]) (v : Value) (hy : a.eval y = v) (hu : P.underlying t = some (.slice e))
    (ie : TypeInfo) (z : Value) (hie : P.info? e = some ie) (hz : ie.zero = some z) (hs : ie.size = 1) (hv : v.cells = #[v]) (h : K (a.put o.dst (.slice (some ⟨w.heap.size, 0, none⟩) 1 1)) (w.alloc (.cells #[v] e))) : wpOp P ops Q i K a w := by
  refine op_val hi hw ?_ h
  have hr := run_buildSlice (P := P) w t e 1 #[(0, v)] #[v] ie z hu hie hz (by rw [hs]; omega) (by rw [hs]; omega) (by
    simp only [Instr.fill, hs, Nat.zero_mul, Nat.one_mul, hv]
    rw [if_neg (by simp)]
    have := fold_all [v] ((Array.range 1).map (z.cells[· % z.cells.size]!)) (by simp)
    simpa using this)
  simp only [execOp, ho, List.map_toArray, List.map_cons, List.map_nil, hy, Sem.run_bind, hr, Result.andThen_ok]
  rfl
theorem op_store1 (hi : ops[i]? = some o) (hw : Region.wanted o (yielded ops a.tmps) = true) (ty : TypeId) (x y : Operand) (ho : o.op = .store ty x y)
    (p : Addr) (hx : a.eval x = .pointer (some p)) (v : Value) (hy : a.eval y = v) (hcs : v.cells = #[v]) (h1 : v.oneCell' = true) (hs : (P.info? ty).map (·.size) = some 1)
    (c : Value) (hc : w.cell? p = some c) (hf : w.frozen? p = false) (h : K (a.put o.dst undef) (w.setCell p v)) : wpOp P ops Q i K a w := by
  unfold wpOp
  simp only [hi]
  rw [if_pos hw]
  left
  cases hq : P.info? ty with
  | none => simp [hq] at hs
  | some it =>
    have hss : it.size = 1 := by simpa [hq] using hs
    have h0 : p.add 0 = p := by cases p; unfold Addr.add; split <;> simp_all
    have hst : (storeCells p [v] 0).run P w = .ok () (w.setCell p v) := by
      simp only [storeCells, Sem.run_bind, h0]
      rw [run_store P w p v .plain h1, hc]
      simp [hf]
    unfold Oper.wp execOp
    simp [ho, hx, hy, Instr.storeAt, Instr.sureAddr, storeVar, sizeOf, typeInfo, hq, hss, hcs, hst]
    exact h
theorem op_app1 (hgi : ops[i]? = some o) (hw : Region.wanted o (yielded ops a.tmps) = true) (s x : Operand) (t : TypeId)
    (ho : o.op = .call { callee := .builtin .append, args := #[s, x], argTypes := #[t, t] })
    (base : Nat) (e : TypeId) (it : TypeInfo) (z : Value) (size bytes : Nat) (ht : P.underlying t = some (.slice e)) (hi : P.info? e = some it) (hz : it.zero = some z)
    (hsize : it.size = size) (hby : it.bytes = bytes) (hzs : z.cells.size = size) (hsz : 0 < size)
    (v : Value) (n : Nat) (xs : List Value) (hs : a.eval s = v) (hown : w.ownsRow base e size v n xs)
    (ad : Addr) (m c : Nat) (news : List Value) (hx : a.eval x = .slice (some ad) m c) (hl : news.length = m * size) (hnews : ∀ j u, news[j]? = some u → w.cell? (ad.add j) = some u) (h1 : ∀ u ∈ news, u.oneCell' = true)
    (h63 : n + m ≤ maxLen) (hbytes : (n + m) * bytes ≤ 140737488355328) (hbase : base ≤ w.heap.size)
    (h : ∀ v' w', w'.ownsRow base e size v' (n + m) (xs ++ news) → w.grownBy w' v.ownBlock → (v'.ownBlock = v.ownBlock ∨ v'.ownBlock = some w.heap.size) → K (a.put o.dst v') w') : wpOp P ops Q i K a w := by
  obtain ⟨v', w', hr, h2, h3, _⟩ := run_append_own (P := P) w base t o.type e it z size bytes ht hi hz hsize hby hzs hsz v n xs hown ad m c news hl hnews h1 h63 hbytes hbase
  subst hsize
  subst hby
  have h4 := append_block w base t o.type e it z ht hi hz v n xs hown ad m c news hl hnews h1 h63 hbytes v' w' hr
  refine op_val hgi hw ?_ (h v' w' h2 h3 h4)
  unfold execOp
  simp only [ho, resolve, invoke, builtin, Sem.run_bind, Sem.run_pure, Result.andThen_ok, List.map_toArray, List.map_cons, List.map_nil, hs, hx, hr]
end
section
end
theorem own_cells {w : World} {B e size n : Nat} {v : Value} {xs : List Value} (h : w.ownsRow B e size v n xs) : v.cells = #[v] := by
  rcases h.2 with ⟨rfl, _⟩ | ⟨g, cap, cur, rfl, _⟩ <;> rfl
section
variable {P : Program}
theorem setRow_same {w : World} {g : Nat} {cs : Array Value} {t : TypeId} {f : Nat × Nat} (h : w.heap[g]? = some (.cells cs t f)) : w.setRow g cs = w := by
  have e : (w.setRow g cs).heap = w.heap := by
    apply Array.ext_getElem?
    intro k
    by_cases hk : k = g
    · subst hk; rw [setRow_heap w k cs cs t f h, h]
    · exact setRow_other w g k cs hk
  cases w
  simp only [World.setRow] at e ⊢
  rw [e]
/-- 'clear(s)': the cells of s hold the zero value; nothing else turns. -/
theorem run_clear_row (w : World) (t ty e : TypeId) (i : TypeInfo) (z : Value) (ht : P.underlying t = some (.slice e)) (hi : P.info? e = some i) (hz : i.zero = some z) (h1 : ∀ u ∈ (Builtin.zeroCells z.cells 1).toList, u.oneCell' = true) (g off n c : Nat) (cs : List Value) (te : TypeId)
    (hg : w.heap[g]? = some (.cells cs.toArray te (0, 0))) (hfit : off + n * z.cells.size ≤ cs.length) : ∃ vs : List Value, vs.length = n * z.cells.size ∧
    (Builtin.clear_ #[t] ty #[.slice (some ⟨g, off, none⟩) n c]).run P w = .ok (.tuple #[]) (w.setRow g (over cs off vs).toArray) := by
  cases n with
  | zero =>
    refine ⟨[], by simp, ?_⟩
    have e1 : over cs off [] = cs := by simp [over]
    have e2 : w.setRow g cs.toArray = w := setRow_same hg
    rw [e1, e2]
    simp [Builtin.clear_, run_underlying ht]
  | succ n =>
    refine ⟨(Builtin.zeroCells z.cells (n + 1)).toList, by simp [Builtin.zeroCells], ?_⟩
    have hone : ∀ u ∈ (Builtin.zeroCells z.cells (n + 1)).toList, u.oneCell' = true := fun u hu => by
      simp only [Builtin.zeroCells, Array.toList_map, List.mem_map] at hu
      obtain ⟨k, hk, rfl⟩ := hu
      have hk2 : k < (n + 1) * z.cells.size := by simpa using hk
      have hpos : 0 < z.cells.size := by
        rcases Nat.eq_zero_or_pos z.cells.size with h0 | h0
        · rw [h0] at hk2; omega
        · exact h0
      refine h1 _ ?_
      simp only [Builtin.zeroCells, Array.toList_map, List.mem_map]
      refine ⟨k % z.cells.size, by simp [Nat.mod_lt _ hpos], by rw [Nat.mod_mod]⟩
    have hst := run_storeCells_at P g off te (Builtin.zeroCells z.cells (n + 1)).toList 0 cs.toArray w hg (by simp [Builtin.zeroCells]; omega) hone
    simp only [Nat.add_zero] at hst
    have hov : cs.take off ++ (Builtin.zeroCells z.cells (n + 1)).toList ++ cs.drop (off + (Builtin.zeroCells z.cells (n + 1)).toList.length) = over cs off (Builtin.zeroCells z.cells (n + 1)).toList := by simp [over]
    simp [Builtin.clear_, run_underlying ht, zeroValue, typeInfo, hi, hz, hst, over]
theorem wpList_clear {w : World} {ops : Array Oper} {rest : List Oper} {o : Oper} {a : Act} {Q : Exit → Act → World → Prop} (hgd : o.guard = none) (s : Operand) (t : TypeId)
    (ho : o.op = .call { callee := .builtin .clear, args := #[s], argTypes := #[t] }) (e : TypeId) (i : TypeInfo) (z : Value) (ht : P.underlying t = some (.slice e)) (hi : P.info? e = some i) (hz : i.zero = some z) (h1 : ∀ u ∈ (Builtin.zeroCells z.cells 1).toList, u.oneCell' = true) (g off n c : Nat) (cs : List Value) (te : TypeId)
    (hs : a.eval s = .slice (some ⟨g, off, none⟩) n c) (hg : w.heap[g]? = some (.cells cs.toArray te (0, 0))) (hfit : off + n * z.cells.size ≤ cs.length)
    (h : ∀ vs : List Value, vs.length = n * z.cells.size → wpList P ops Q rest (a.put o.dst (.tuple #[])) (w.setRow g (over cs off vs).toArray)) : wpList P ops Q (o :: rest) a w := by
  refine wpList_plain hgd fun K hK => ?_
  obtain ⟨vs, hl, hr⟩ := run_clear_row (P := P) w t o.type e i z ht hi hz h1 g off n c cs te hg hfit
  unfold Oper.wp execOp
  simp only [ho, resolve, invoke, builtin, Sem.run_bind, Sem.run_pure, Result.andThen_ok, List.map_toArray, List.map_cons, List.map_nil, hs, hr]
  exact hK _ _ (h vs hl)
theorem wpList_clear0 {w : World} {ops : Array Oper} {rest : List Oper} {o : Oper} {a : Act} {Q : Exit → Act → World → Prop} (hgd : o.guard = none) (s : Operand) (t : TypeId)
    (ho : o.op = .call { callee := .builtin .clear, args := #[s], argTypes := #[t] }) (e : TypeId) (ht : P.underlying t = some (.slice e)) (A : Option Addr) (n c : Nat)
    (hs : a.eval s = .slice A n c) (hn : n = 0)
    (h : wpList P ops Q rest (a.put o.dst (.tuple #[])) w) : wpList P ops Q (o :: rest) a w := by
  subst hn
  refine wpList_plain hgd fun K hK => ?_
  have hr : (Builtin.clear_ #[t] o.type #[.slice A 0 c]).run P w = .ok (.tuple #[]) w := by cases A <;> simp [Builtin.clear_, run_underlying ht]
  unfold Oper.wp execOp
  simp only [ho, resolve, invoke, builtin, Sem.run_bind, Sem.run_pure, Result.andThen_ok, List.map_toArray, List.map_cons, List.map_nil, hs, hr]
  exact hK _ _ h
/-- An own row cut, of which what lies behind the cut was written over. -/
theorem row_cut_over {w : World} {B e size n m g c : Nat} {xs : List Value} (h : w.ownsRow B e size (.slice (some ⟨g, 0, none⟩) n c) n xs) (hm : m ≤ n) :
    ∃ cur : List Value, w.heap[g]? = some (.cells cur.toArray e (0, 0)) ∧ n * size ≤ cur.length ∧ ∀ vs : List Value, m * size + vs.length ≤ cur.length → (w.setRow g (over cur (m * size) vs).toArray).ownsRow B e size (.slice (some ⟨g, 0, none⟩) m c) m (xs.take (m * size)) := by
  have hl := h.1
  have hms : m * size ≤ n * size := Nat.mul_le_mul_right _ hm
  rcases h.2 with ⟨hv, _⟩ | ⟨g', cap, cur, hv, hb, hg, hnc, hcm, hcs, ht⟩
  · cases hv
  · simp only [Value.slice.injEq, Option.some.injEq, Addr.mk.injEq, true_and, and_true] at hv
    obtain ⟨rfl, rfl⟩ := hv
    have hlen : n * size ≤ cur.toList.length := by rw [Array.length_toList, hcs]; exact Nat.mul_le_mul_right _ hnc
    refine ⟨cur.toList, by simpa using hg, hlen, fun vs hfit => ⟨by rw [List.length_take]; omega, .inr ⟨g, c, _, rfl, hb, setRow_heap w g cur _ e _ hg, by omega, hcm, ?_, ?_⟩⟩⟩
    · have e1 : (over cur.toList (m * size) vs).length = cur.toList.length := by
        simp only [over, List.length_append, List.length_take, List.length_drop]
        omega
      rw [List.size_toArray, e1, Array.length_toList, hcs]
    · simp only [over]
      rw [← ht, List.take_append, List.take_take, List.take_take]
      have hA : (cur.toList.take (m * size)).length = m * size := by rw [List.length_take]; omega
      rw [hA, Nat.sub_self, List.take_zero, List.append_nil, Nat.min_self, Nat.min_eq_left hms]
end

section
variable {P : Program} {o : Oper} {a : Act}
theorem run_slLo (w : World) {x ix : Operand} {t : TypeId} (ho : o.op = .slice t x (some ix) none none) (A : Option Addr) (n c k sz : Nat) (e : TypeId) (hx : a.eval x = .slice A n c) (hi : a.eval ix = .int .i64 k) (hk : k ≤ n)
    (hu : P.underlying t = some (.slice e)) (hs : (P.info? e).map (·.size) = some sz) : (execOp a.eval o).run P w = .ok (.value (.slice (if c = k then A else A.map (·.add (k * sz))) (n - k) (c - k))) w := by
  cases hq : P.info? e with
  | none => simp [hq] at hs
  | some i =>
    have his : i.size = sz := by simpa [hq] using hs
    have hk2 : (0 : Int) ≤ (k : Int) ∧ (k : Int) ≤ n := by omega
    simp [execOp, ho, hx, hi, Instr.sliceAt, Instr.slice, Instr.sliceBounds, Instr.sliceBound, run_underlying hu, asIntOf, sizeOf, typeInfo, hq, his, hk2, hk]
theorem run_slHi (w : World) {x ix : Operand} {t : TypeId} (ho : o.op = .slice t x none (some ix) none) (A : Option Addr) (n c k sz : Nat) (e : TypeId) (hx : a.eval x = .slice A n c) (hA : A = none ∨ ∃ g, A = some ⟨g, 0, none⟩) (hi : a.eval ix = .int .i64 k) (hk : k ≤ c)
    (hu : P.underlying t = some (.slice e)) (hs : (P.info? e).map (·.size) = some sz) : (execOp a.eval o).run P w = .ok (.value (.slice A k c)) w := by
  cases hq : P.info? e with
  | none => simp [hq] at hs
  | some i =>
    have his : i.size = sz := by simpa [hq] using hs
    have hk2 : (0 : Int) ≤ (k : Int) ∧ (k : Int) ≤ c := by omega
    have hA2 : A.map (·.add 0) = A := by
      rcases hA with rfl | ⟨g, rfl⟩
      · rfl
      · simp only [Option.map_some, Addr.add_lit]
    simp [execOp, ho, hx, hi, Instr.sliceAt, Instr.slice, Instr.sliceBounds, Instr.sliceBound, run_underlying hu, asIntOf, sizeOf, typeInfo, hq, his, hk2, hk, hA2]
theorem run_ld1 (w : World) {x : Operand} {ty : TypeId} (ho : o.op = .load ty x) (p : Addr) (v : Value) (hx : a.eval x = .pointer (some p)) {d : TypeDesc} (hu : P.underlying ty = some d) (hd : aggD d = false) (hc : w.cell? p = some v) : (execOp a.eval o).run P w = .ok (.value v) w := by
  have hagg : (isAgg ty).run P w = .ok false w := by
    unfold isAgg
    rw [Sem.run_bind, run_underlying hu w]
    cases d <;> simp_all [aggD]
  simp [execOp, ho, hx, Instr.loadAt, Instr.sureAddr, loadVar, Sem.run_bind, hagg, hc]
end

section
variable {P : Program} {ops : Array Oper} {md : Region.Mode} {W0 W1 : World} {p : Nat}
/-- It reads, in both worlds alike; or it is p and makes the second world out of the first. -/
def YM (P : Program) (ops : Array Oper) (W0 W1 : World) (p i : Nat) (o : Oper) (v : Value) (a : Act) : Prop :=
  (Region.wanted o (yielded ops a.tmps) = true ∧ (execOp a.eval o).run P W0 = .ok (.value v) (if i = p then W1 else W0) ∧ (i ≠ p → (execOp a.eval o).run P W1 = .ok (.value v) W1)) ∨ (Region.wanted o (yielded ops a.tmps) = false ∧ v = undef ∧ i ≠ p) ∨ (Region.wanted o (yielded ops a.tmps) = true ∧ v = undef ∧ i = p ∧ (execOp a.eval o).run P W0 = .ok .skip W1)
theorem YM.of_put {i : Nat} {o : Oper} {v : Value} {a : Act} {d : Option Tmp} {u : Value} (hs : ∀ cs b, o.op ≠ .select cs b) (h : ∀ t, d = some t → t ∉ o.looksAt ops) : YM P ops W0 W1 p i o v (a.put d u) ↔ YM P ops W0 W1 p i o v a := by
  unfold YM
  rw [execOp_put o hs a d u h, wanted_put o a d u h]
theorem YM.wp {o : Oper} {i : Nat} {v : Value} {a : Act} {b : Bool} (hi : ops[i]? = some o) (hy : YM P ops W0 W1 p i o v a) (hb : i = p → b = false) {K : Act → World → Prop} {Q : Exit → Act → World → Prop} (h : K (a.put o.dst v) (if b || decide (i = p) then W1 else W0)) : wpOp P ops Q i K a (if b then W1 else W0) := by
  unfold wpOp
  simp only [hi]
  rcases hy with ⟨h1, h2, h3⟩ | ⟨h1, rfl, h3⟩ | ⟨h1, rfl, hip, h2⟩
  · rw [if_pos h1]
    left
    unfold Oper.wp
    by_cases hip : i = p
    · rw [hb hip] at h ⊢
      rw [if_pos hip] at h2
      simp only [Bool.false_eq_true, if_false, Bool.false_or, hip, decide_true, if_true] at h ⊢
      rw [h2]
      exact h
    · rw [if_neg hip] at h2
      simp only [hip, decide_false, Bool.or_false] at h
      cases b
      · simp only [Bool.false_eq_true, if_false] at h ⊢
        rw [h2]
        exact h
      · simp only [if_true] at h ⊢
        rw [h3 hip]
        exact h
  · rw [h1]
    simp only [h3, decide_false, Bool.or_false] at h
    exact h
  · rw [if_pos h1]
    left
    unfold Oper.wp
    rw [hb hip] at h ⊢
    simp only [Bool.false_eq_true, if_false, Bool.false_or, hip, decide_true, if_true] at h ⊢
    rw [h2]
    exact h
def anySeqM (P : Program) (md : Region.Mode) (ops : Array Oper) (W0 W1 : World) (p : Nat) (K : Array Bool → Act → Prop) : Nat → Array Bool → Act → Prop
  | 0, listed, a => K listed a
  | m + 1, listed, a => ∀ i ∈ Region.ready md ops listed, ∃ o v, ops[i]? = some o ∧ YM P ops W0 W1 p i o v a ∧ anySeqM P md ops W0 W1 p K m (listed.setIfInBounds i true) (a.put o.dst v)
theorem getD_ff {listed : Array Bool} {i : Nat} (h : listed.getD i true = false) : listed.getD i false = false ∧ i < listed.size := by
  rcases Nat.lt_or_ge i listed.size with h' | h'
  · refine ⟨?_, h'⟩
    simp [h'] at h ⊢
    exact h
  · simp [Array.getElem?_eq_none h'] at h
theorem anySeqM_sound {K : Array Bool → Act → Prop} {Q : Exit → Act → World → Prop} {ks : List Nat} {t : Nat} (hp : p ∈ ks) (hK : ∀ listed a, K listed a → wpAny P md ops Q t listed a W1) :
    ∀ (m : Nat) (listed : Array Bool) (a : Act), onlyB md ops ks m listed = true → anySeqM P md ops W0 W1 p K m listed a → wpAny P md ops Q (m + t) listed a (if listed.getD p false then W1 else W0)
  | 0, listed, a, ho, h => by
    unfold onlyB at ho
    rw [List.all_eq_true.1 ho p hp, if_pos rfl, Nat.zero_add]
    exact hK listed a h
  | m + 1, listed, a, ho, h => by
    obtain ⟨h1, h2⟩ := onlyB_succ ho
    rw [show m + 1 + t = m + t + 1 by omega]
    refine ⟨fun e => absurd e h1, fun i hi => ?_⟩
    obtain ⟨o, v, hio, hy, hk⟩ := h i hi
    obtain ⟨hif, hil⟩ := getD_ff (mem_ready.1 hi).1
    refine hy.wp (b := listed.getD p false) hio (fun e => by rw [← e]; exact hif) ?_
    have := anySeqM_sound hp hK m _ _ (h2 i hi).2 hk
    by_cases hip : i = p
    · subst hip
      have e1 : (listed.setIfInBounds i true).getD i false = true := by rw [getD_set _ _ _ hil, if_pos rfl]
      rw [e1, if_pos rfl] at this
      simp only [decide_true, Bool.or_true, if_true]
      exact this
    · rw [getD_set_ne false hip] at this
      simp only [hip, decide_false, Bool.or_false]
      exact this
theorem anySeqM_first {K : Array Bool → Act → Prop} {i : Nat} {oi : Oper} {v : Value} {ks : List Nat} (hi : ops[i]? = some oi) (hsel : ∀ (j : Nat) (o : Oper) cs b, ops[j]? = some o → o.op ≠ .select cs b) :
    ∀ (m : Nat) (listed : Array Bool) (a : Act), onlyB md ops ks (m + 1) listed = true →
      (∀ j oj, ops[j]? = some oj → j ≠ i → listed.getD j true = false → (∀ e ∈ oj.after, Region.binds md e = true → e.on ≠ i) → oi.apart ops oj = true) →
      i ∈ Region.ready md ops listed → YM P ops W0 W1 p i oi v a → anySeqM P md ops W0 W1 p K m (listed.setIfInBounds i true) (a.put oi.dst v) → anySeqM P md ops W0 W1 p K (m + 1) listed a := by
  intro m
  induction m with
  | zero =>
    intro listed a ho _ hr hy H j hj
    by_cases hji : j = i
    · subst hji; exact ⟨oi, v, hi, hy, H⟩
    · exfalso
      obtain ⟨_, h2⟩ := onlyB_succ ho
      have h3 := (h2 i hr).2
      unfold onlyB at h3
      have h4 := List.all_eq_true.1 h3 j (h2 j hj).1
      rw [getD_set_ne false (Ne.symm hji)] at h4
      have h5 := (mem_ready.1 hj).1
      rcases Nat.lt_or_ge j listed.size with h' | h'
      · simp [h'] at h4 h5; rw [h4] at h5; cases h5
      · simp [Array.getElem?_eq_none h'] at h4
  | succ m ih =>
    intro listed a ho hfree hr hy H j hj
    by_cases hji : j = i
    · subst hji; exact ⟨oi, v, hi, hy, H⟩
    · obtain ⟨oj, u, hoj, hyj, hkj⟩ := H j (ready_mono hj hji)
      obtain ⟨hjun, oj', hoj', hall⟩ := mem_ready.1 hj
      obtain rfl : oj' = oj := Option.some.inj (hoj'.symm.trans hoj)
      have hnot : ∀ e ∈ oj'.after, Region.binds md e = true → e.on ≠ i := fun e he hb heq => by
        have h1 := hall e he hb
        have h0 := (mem_ready.1 hr).1
        rw [heq] at h1
        rcases Nat.lt_or_ge i listed.size with h' | h'
        · simp [h'] at h0 h1; rw [h0] at h1; cases h1
        · simp [Array.getElem?_eq_none h'] at h1
      obtain ⟨a1, a2, a3⟩ := Oper.apart_spec (hfree j oj' hoj hji hjun hnot)
      have hfree' : ∀ k ok, ops[k]? = some ok → k ≠ i → (listed.setIfInBounds j true).getD k true = false →
          (∀ e ∈ ok.after, Region.binds md e = true → e.on ≠ i) → oi.apart ops ok = true := fun k ok hk hki hun hno => by
        refine hfree k ok hk hki ?_ hno
        by_cases hjk : j = k
        · subst hjk; exact hjun
        · rw [getD_set_ne true hjk] at hun; exact hun
      refine ⟨oj', u, hoj, (YM.of_put (hsel j oj' · · hoj) a1).1 hyj, ih (listed.setIfInBounds j true) (a.put oj'.dst u) ((onlyB_succ ho).2 j hj).2 hfree' (ready_mono hr (Ne.symm hji)) ((YM.of_put (hsel i oi · · hi) a3).2 hy) ?_⟩
      rw [Array.setIfInBounds_comm _ _ hji, Act.put_comm a u v (fun d hd e => a2 d e hd)]
      exact hkj
/-- The walk in the order of ks. -/
def wpM (P : Program) (ops : Array Oper) (W0 W1 : World) (p : Nat) (Q : Act → Prop) : List Nat → List Oper → Act → Prop
  | k :: ks, o :: l, a => ∃ v, YM P ops W0 W1 p k o v a ∧ wpM P ops W0 W1 p Q ks l (a.put o.dst v)
  | _, _, a => Q a
theorem anySeqM_lex {Q : Act → Prop} {ks0 : List Nat} (hs : Region.noSelect ops = true) : ∀ (ks : List Nat) (l : List Oper) (listed : Array Bool) (a : Act), (ks.map fun k => ops[k]?) = l.map some →
    seqB md ops ks listed = true → onlyB md ops ks0 ks.length listed = true → wpM P ops W0 W1 p Q ks l a → anySeqM P md ops W0 W1 p (fun L a' => L = ks.foldl (fun L k => L.setIfInBounds k true) listed ∧ Q a') ks.length listed a
  | [], [], _, _, _, _, _, h => ⟨rfl, h⟩
  | [], o :: l, _, _, hl, _, _, _ => by simp at hl
  | k :: ks, [], _, _, hl, _, _, _ => by simp at hl
  | k :: ks, o :: l, listed, a, hl, hB, ho, h => by
    simp only [List.map_cons, List.cons.injEq] at hl
    simp only [seqB, Bool.and_eq_true, List.contains_iff_mem] at hB
    obtain ⟨⟨hr, hf⟩, hB'⟩ := hB
    obtain ⟨v, hy, hK⟩ := h
    exact anySeqM_first hl.1 (Region.noSelect_spec hs) ks.length listed a ho (Region.free_spec hl.1 hf) hr hy
      (anySeqM_lex hs ks l _ _ hl.2 hB' ((onlyB_succ ho).2 k hr).2 hK)
/-- The operations ks by one walk; then the rest. -/
theorem any_seqM {Q : Exit → Act → World → Prop} {a : Act} {listed : Array Bool} {t : Nat} (p : Nat) (W1 : World) (ks : List Nat) (l : List Oper) (hns : Region.noSelect ops = true) (hl : (ks.map fun k => ops[k]?) = l.map some)
    (hs : seqB md ops ks listed = true) (ho : onlyB md ops ks ks.length listed = true) (hp : ks.contains p = true) (hlp : listed.getD p false = false)
    (h : wpM P ops W0 W1 p (fun a' => wpAny P md ops Q t (ks.foldl (fun L k => L.setIfInBounds k true) listed) a' W1) ks l a) : wpAny P md ops Q (ks.length + t) listed a W0 := by
  have := anySeqM_sound (ks := ks) (W0 := W0) (W1 := W1) (p := p) (by simpa using hp) (fun L a' hk => by obtain ⟨rfl, hq⟩ := hk; exact hq) ks.length listed a ho (anySeqM_lex hns ks l listed a hl hs ho h)
  rw [hlp] at this
  exact this
end
section
variable {P : Program} {ops : Array Oper} {W0 W1 : World} {p : Nat} {Q : Act → Prop} {k : Nat} {ks : List Nat} {o : Oper} {l : List Oper} {a : Act} {v : Value}
theorem m_read (hw : Region.wanted o (yielded ops a.tmps) = true) (hk : k ≠ p) (h0 : (execOp a.eval o).run P W0 = .ok (.value v) W0) (h1 : (execOp a.eval o).run P W1 = .ok (.value v) W1) (h : wpM P ops W0 W1 p Q ks l (a.put o.dst v)) : wpM P ops W0 W1 p Q (k :: ks) (o :: l) a :=
  ⟨v, .inl ⟨hw, by rw [if_neg hk]; exact h0, fun _ => h1⟩, h⟩
theorem m_make (hw : Region.wanted o (yielded ops a.tmps) = true) (h0 : (execOp a.eval o).run P W0 = .ok (.value v) W1) (h : wpM P ops W0 W1 p Q ks l (a.put o.dst v)) : wpM P ops W0 W1 p Q (p :: ks) (o :: l) a :=
  ⟨v, .inl ⟨hw, by rw [if_pos rfl]; exact h0, fun e => absurd rfl e⟩, h⟩
theorem m_store (hw : Region.wanted o (yielded ops a.tmps) = true) (h0 : (execOp a.eval o).run P W0 = .ok .skip W1) (h : wpM P ops W0 W1 p Q ks l (a.put o.dst undef)) : wpM P ops W0 W1 p Q (p :: ks) (o :: l) a :=
  ⟨undef, .inr (.inr ⟨hw, rfl, rfl, h0⟩), h⟩
theorem m_norm {a' : Act} (h : a = a') (hk : wpM P ops W0 W1 p Q ks l a') : wpM P ops W0 W1 p Q ks l a := h ▸ hk
theorem m_nil (h : Q a) : wpM P ops W0 W1 p Q [] [] a := h
end

/-- One node: its level, its index, its hash. -/
def ndc (j i : Nat) (h : HB) : List Value := .int .u8 j :: .int .u64 i :: h.map u8v
def ndI (j i : Int) (h : HB) : List Value := .int .u8 j :: .int .u64 i :: h.map u8v
/-- The nodes that a leaf more brings, up to level k. -/
def nds (n : Nat) (l : List HB) (h : HB) (k : Nat) : List Value := ((List.range (k + 1)).map (fun j => ndc j (n / 2 ^ j) (cr nodeH l j h))).flatten
section
variable {P : Program} {ops : Array Oper} {Q : Exit → Act → World → Prop} {a : Act} {w : World} {i : Nat} {o : Oper} {K : Act → World → Prop}
theorem op_buildOneA (hi : ops[i]? = some o) (hw : Region.wanted o (yielded ops a.tmps) = true) (t e : TypeId) (y : Operand) (ho : o.op = .buildSlice t 1 #[(0, y)])
    (vs : List Value) (hy : a.eval y = .agg vs.toArray) (hu : P.underlying t = some (.slice e)) (hie : (P.info? e).map (·.size) = some vs.length) (hz : ((P.info? e).bind (·.zero)).isSome = true) (hpos : 0 < vs.length) (hsmall : vs.length ≤ 16777216)
    (h : K (a.put o.dst (.slice (some ⟨w.heap.size, 0, none⟩) 1 1)) (w.alloc (.cells vs.toArray e))) : wpOp P ops Q i K a w := by
  cases hq : P.info? e with
  | none => simp [hq] at hie
  | some ie =>
    simp only [hq, Option.map_some, Option.some.injEq, Option.bind_some] at hie hz
    obtain ⟨z, hzz⟩ := Option.isSome_iff_exists.1 hz
    refine op_val hi hw ?_ h
    have hr := run_buildSlice (P := P) w t e 1 #[(0, .agg vs.toArray)] vs.toArray ie z hu hq hzz (by rw [hie]; omega) (by rw [hie]; omega) (by
      simp only [Instr.fill, Value.cells, hie, Nat.zero_mul, Nat.one_mul]
      rw [if_neg (by simp), fold_all _ _ (by simp)])
    simp only [execOp, ho, List.map_toArray, List.map_cons, List.map_nil, hy, Sem.run_bind, hr, Result.andThen_ok]
    rfl
end
theorem run_buildOneA {P : Program} {a : Act} {o : Oper} (w : World) (t e : TypeId) (y : Operand) (ho : o.op = .buildSlice t 1 #[(0, y)])
    (vs : List Value) (hy : a.eval y = .agg vs.toArray) (hu : P.underlying t = some (.slice e)) (hie : (P.info? e).map (·.size) = some vs.length) (hz : ((P.info? e).bind (·.zero)).isSome = true) (hpos : 0 < vs.length) (hsmall : vs.length ≤ 16777216) :
    (execOp a.eval o).run P w = .ok (.value (.slice (some ⟨w.heap.size, 0, none⟩) 1 1)) (w.alloc (.cells vs.toArray e)) := by
  cases hq : P.info? e with
  | none => simp [hq] at hie
  | some ie =>
    simp only [hq, Option.map_some, Option.some.injEq, Option.bind_some] at hie hz
    obtain ⟨z, hzz⟩ := Option.isSome_iff_exists.1 hz
    have hr := run_buildSlice (P := P) w t e 1 #[(0, .agg vs.toArray)] vs.toArray ie z hu hq hzz (by rw [hie]; omega) (by rw [hie]; omega) (by
      simp only [Instr.fill, Value.cells, hie, Nat.zero_mul, Nat.one_mul]
      rw [if_neg (by simp), fold_all _ _ (by simp)])
    simp only [execOp, ho, List.map_toArray, List.map_cons, List.map_nil, hy, Sem.run_bind, hr, Result.andThen_ok]
    rfl
theorem op_asg {P : Program} {ops : Array Oper} {Q : Exit → Act → World → Prop} {a : Act} {w : World} {i : Nat} {o : Oper} {K : Act → World → Prop} (hi : ops[i]? = some o) (hw : Region.wanted o (yielded ops a.tmps) = true) {x : Operand} (ho : o.op = .assign x) (v : Value) (hv : a.eval x = v) (h : K (a.put o.dst v) w) : wpOp P ops Q i K a w := by
  subst hv
  exact op_val hi hw (by simp [execOp, ho]) h
theorem inv_act {P : Program} {ops : Array Oper} {Q : Exit → Act → World → Prop} {w : World} {a a' : Act} {md : Region.Mode} {n : Nat} {listed : Array Bool} (h : a = a') (hk : wpAny P md ops Q n listed a' w) : wpAny P md ops Q n listed a w := h ▸ hk
theorem node_size : (Tryz.prog.info? 179).map (·.size) = some 34 := by kernel_rfl
theorem node_zero : ((Tryz.prog.info? 179).bind (·.zero)).isSome = true := by kernel_rfl
theorem ndc_len (j i : Nat) {y : HB} (hy : y.length = 32) : (ndc j i y).length = 34 := by simp [ndc, hy]
theorem fold_over (o : Nat) : ∀ (vs : List Value) (k : Nat) (cs : List Value), o + k + vs.length ≤ cs.length → (vs.zipIdx k).foldl (fun (cs : Array Value) (x : Value × Nat) => cs.setIfInBounds (o + x.2) x.1) cs.toArray = (over cs (o + k) vs).toArray := by
  intro vs
  induction vs with
  | nil => intro k cs _; simp [over]
  | cons v vs ih =>
    intro k cs hl
    simp only [List.length_cons] at hl
    rw [List.zipIdx_cons, List.foldl_cons]
    show List.foldl _ (cs.toArray.setIfInBounds (o + k) v) _ = _
    rw [show cs.toArray.setIfInBounds (o + k) v = (cs.set (o + k) v).toArray by simp, ih (k + 1) (cs.set (o + k) v) (by rw [List.length_set]; omega)]
    congr 1
    unfold over
    have h1 : (cs.set (o + k) v).take (o + (k + 1)) = cs.take (o + k) ++ [v] := by
      rw [show o + (k + 1) = (o + k) + 1 by omega, List.take_succ_eq_append_getElem (by rw [List.length_set]; omega), List.getElem_set_self, List.take_set_of_le (Nat.le_refl _)]
    have h2 : (cs.set (o + k) v).drop (o + (k + 1) + vs.length) = cs.drop (o + k + (v :: vs).length) := by
      rw [List.drop_set_of_lt (by omega), List.length_cons, show o + (k + 1) + vs.length = o + k + (vs.length + 1) by omega]
    rw [h1, h2]
    simp
theorem node_build (a b : Value) (y : HB) (hy : y.length = 32) : List.foldl (fun (cs : Array Value) (x : Value × Nat) => cs.setIfInBounds (2 + x.2) x.1) #[a, b, .int .u8 0, .int .u8 0, .int .u8 0, .int .u8 0, .int .u8 0, .int .u8 0, .int .u8 0, .int .u8 0, .int .u8 0, .int .u8 0, .int .u8 0, .int .u8 0, .int .u8 0, .int .u8 0, .int .u8 0, .int .u8 0, .int .u8 0, .int .u8 0, .int .u8 0, .int .u8 0, .int .u8 0, .int .u8 0, .int .u8 0, .int .u8 0, .int .u8 0, .int .u8 0, .int .u8 0, .int .u8 0, .int .u8 0, .int .u8 0, .int .u8 0, .int .u8 0] ((y.map u8v).zipIdx) = (a :: b :: y.map u8v).toArray := by
  have h := fold_over 2 (y.map u8v) 0 (a :: b :: zero32.toList) (by simp [hy])
  refine h.trans ?_
  congr 1
  unfold over
  simp [hy]
theorem compl64 (n : Nat) (h : n < 18446744073709551616) : bits .xor .u64 IntKind.u64.max (n : Int) = ((18446744073709551615 - n : Nat) : Int) := by
  show IntKind.u64.wrap (((BitVec.ofInt 64 IntKind.u64.max) ^^^ (BitVec.ofInt 64 (n : Int))).toNat : Int) = _
  have e1 : BitVec.ofInt 64 IntKind.u64.max = BitVec.allOnes 64 := by decide +kernel
  have e2 : (BitVec.ofInt 64 (n : Int)).toNat = n := by
    rw [BitVec.ofInt_natCast, BitVec.toNat_ofNat]; exact Nat.mod_eq_of_lt (by omega)
  rw [e1, BitVec.allOnes_xor, BitVec.toNat_not, e2, IntKind.wrap_u64]
  omega
/-- At level j: the nodes so far, the hash in its variable. -/
def AdRel (q : Nat) (n : Nat) (l : List HB) (y : HB) (o : Nat) (w : World) (v jv : Value) (wr : World) : Prop :=
  ∃ (j : Nat), j ≤ o ∧ jv = .int .i64 j ∧ wr.ownsRow (q + 1) 179 34 v (j + 1) (nds n l y j) ∧ (∃ x, x = cr nodeH l j y ∧ x.length = 32 ∧ wr.heap[q]? = some (.cells (x.map u8v).toArray 30 (0, 0))) ∧ Upd (fun g => q ≤ g) w wr
theorem zero_oneC : ∀ u ∈ (Builtin.zeroCells (Value.agg zero32).cells 1).toList, u.oneCell' = true := List.all_eq_true.1 (by kernel_rfl)
theorem size_hashes : (Tryz.prog.info? 65).map (·.size) = some 1 := by kernel_rfl
/-- A new block of one element is an own row. -/
theorem own_one (w : World) {B size : Nat} {e : TypeId} (vs : List Value) (hs : vs.length = size) (hB : B ≤ w.heap.size) : (w.alloc (.cells vs.toArray e)).ownsRow B e size (.slice (some ⟨w.heap.size, 0, none⟩) 1 1) 1 vs :=
  ⟨by rw [Nat.one_mul]; exact hs, .inr ⟨w.heap.size, 1, vs.toArray, rfl, hB, blk_alloc _ _, Nat.le_refl _, by decide, by simp [hs], by rw [Nat.one_mul, ← hs]; simp⟩⟩
theorem row_capL {w : World} {B e size n : Nat} {A : Option Addr} {c : Nat} {xs : List Value} (h : w.ownsRow B e size (.slice A n c) n xs) : n ≤ c := by
  rcases h.2 with ⟨hv, h0⟩ | ⟨g, cap, cur, hv, _, _, hnc, _⟩
  · omega
  · simp only [Value.slice.injEq, true_and] at hv
    omega
theorem row_addr {w : World} {B e size n : Nat} {A : Option Addr} {c : Nat} {xs : List Value} (h : w.ownsRow B e size (.slice A n c) n xs) : A = none ∨ ∃ g, A = some ⟨g, 0, none⟩ := by
  rcases h.2 with ⟨hv, h0⟩ | ⟨g, cap, cur, hv, _⟩
  · simp only [Value.slice.injEq] at hv
    exact .inl hv.1
  · simp only [Value.slice.injEq, true_and] at hv
    exact .inr ⟨g, hv.1⟩
theorem hash_zero : ((Tryz.prog.info? 30).bind (·.zero)).isSome = true := by kernel_rfl
theorem nds_zero (n : Nat) (l : List HB) (y : HB) : nds n l y 0 = ndc 0 n y := by simp [nds, cr_zero]
theorem nds_succ (n : Nat) (l : List HB) (y : HB) (k : Nat) : nds n l y (k + 1) = nds n l y k ++ ndc (k + 1) (n / 2 ^ (k + 1)) (cr nodeH l (k + 1) y) := by
  unfold nds
  rw [List.range_succ (n := k + 1), List.map_append, List.flatten_append]
  simp
theorem ndc_one (j i : Nat) (y : HB) : ∀ u ∈ ndc j i y, u.oneCell' = true := fun u hu => by
  simp only [ndc, List.mem_cons] at hu
  rcases hu with rfl | rfl | hu
  · rfl
  · rfl
  · exact u8_ones y u hu
theorem info_node : (Tryz.prog.info? 179).map (fun i => (i.zero.map (·.cells.size), i.size, i.bytes)) = some (some 34, 34, 48) := by kernel_rfl
theorem node_parts : ∃ (j0 : TypeInfo) (z : Value), Tryz.prog.info? 179 = some j0 ∧ j0.zero = some z ∧ j0.size = 34 ∧ j0.bytes = 48 ∧ z.cells.size = 34 := by
  have h := info_node
  cases hq : Tryz.prog.info? 179 with
  | none => rw [hq] at h; cases h
  | some i =>
    rw [hq] at h
    simp only [Option.map_some, Option.some.injEq, Prod.mk.injEq] at h
    obtain ⟨h1, h2, h3⟩ := h
    cases hz : i.zero with
    | none => rw [hz] at h1; cases h1
    | some z =>
      rw [hz] at h1
      exact ⟨i, z, rfl, hz, h2, h3, by simpa using h1⟩
theorem AdRel.step {q n j : Nat} {l : List HB} {y x : HB} {o : Nat} {w W3 : World} {v : Value} (hj : j < o) (hx : x = cr nodeH l (j + 1) y) (hx32 : x.length = 32) (hq : W3.heap[q]? = some (.cells (x.map u8v).toArray 30 (0, 0))) (hv : W3.ownsRow (q + 1) 179 34 v (j + 1) (nds n l y j)) (hu : Upd (fun g => q ≤ g) w W3) (hqw : q = w.heap.size)
    {v' : Value} {w' : World} (hown : w'.ownsRow (q + 1) 179 34 v' (j + 1 + 1) (nds n l y j ++ ndc (j + 1) (n / 2 ^ (j + 1)) x)) (hgrow : (W3.drew.alloc (.cells (ndc (j + 1) (n / 2 ^ (j + 1)) x).toArray 179)).grownBy w' v.ownBlock) : AdRel q n l y o w v' (.int .i64 ((j + 1 : Nat) : Int)) w' := by
  refine ⟨j + 1, by omega, rfl, by rw [nds_succ, ← hx]; exact hown, ⟨x, hx, hx32, ?_⟩, ?_⟩
  · refine (hgrow.block q ?_ ?_).trans ?_
    · have := lt_of_blk hq; simp; omega
    · intro e
      have := (hv.lt q e.symm).1
      omega
    · rw [Below.heap_alloc _ _ _ (lt_of_blk (w := W3.drew) hq)]; exact hq
  · exact ((hu.drew).alloc _).grown hgrow (fun k hk => .inl (by have := (hv.lt k hk).1; omega))
set_option maxRecDepth 20000 in
set_option maxHeartbeats 8000000 in
theorem add_any {B : Nat} {w : World} {b : Nat} {lv : Value} {n : Nat} {l : List HB} (D : BldAt B w b lv n l) (y : HB) (hh : y.length = 32) (h32 : H32 l) (hn : n < 16777216) (ho : ones n ≤ l.length) (hl : l.length ≤ 64) (hG : 21 < w.heap.size) (htab : ShaTab w) (hT : TabAt 20 Lib.deBruijn64tab w) :
    Calls Tryz.prog 101 #[.pointer (some ⟨b, 0, none⟩), hashV y] w fun e w' => ∃ rv lv', e = .returned (.tuple #[rv, .nilIface]) ∧ w'.ownsRow w.heap.size 179 34 rv (ones n + 1) (nds n l y (ones n)) ∧
      BldAt B w' b lv' (n + 1) (l.take (l.length - ones n) ++ [cr nodeH l (ones n) y]) ∧ (∀ g, lv'.ownBlock = some g → lv.ownBlock = some g ∨ w.heap.size ≤ g) ∧ Upd (fpE b lv) w w' := by
  obtain ⟨LA, lc, rfl⟩ := own_sl D.row
  have X0 := (Upd.refl none' w).alloc (.cells (y.map u8v).toArray 30)
  have HQ := Lib.hid (blk_alloc w (.cells (y.map u8v).toArray 30))
  have HX := Lib.hid X0
  have HT := Lib.hid (htab.ext X0)
  have HTB := Lib.hid (tabAt_ext hT X0)
  have HG := Lib.hid hG
  have HD := Lib.hid (D.ext X0)
  have HB1 := Lib.hid (u8_ones y)
  have HSL := Lib.hid (hash_size32 y hh)
  generalize hW : w.alloc (.cells (y.map u8v).toArray 30) = W at *
  have c0 : W.cell? ⟨b, 0, none⟩ = some (.bool true) := cell_of_blk HD.out.blk 0
  have c1 : W.cell? ⟨b, 1, none⟩ = some (.int .u64 n) := cell_of_blk HD.out.blk 1
  have hne : ¬ ((n : Int) = 9223372036854775808) := by omega
  have C := ctz_any (18446744073709551615 - n) (by omega) (by omega) W HTB.out
  rw [ctz_compl n (by omega)] at C
  have hxc := compl64 n (by omega)
  go_enter Tryz.func101, Tryz.ntmps101
  go_wp2_with fail
  refine C.mono ?_
  rintro e w1 ⟨rfl, rfl⟩
  go_wp2_with fail
  refine wp_region_any (by kernel_rfl) ?_
  change wpAny _ _ _ _ _ _ _ (World.drew _)
  refine any_seq (t := 2) [0, 1, 2, 3, 4, 5, 6] [_, _, _, _, _, _, _] (fun w' => w' = W.drew) (by kernel_rfl) rfl (by kernel_rfl) (by kernel_rfl) rfl ?_
  simp only [List.getElem_toArray, List.getElem_cons_succ, List.getElem_cons_zero]
  refine inv_move rfl rfl (.pointer (some ⟨b, 0, none⟩)) rfl ?_
  refine inv_norm (by go_simp; exact rfl) ?_
  refine inv_pure (v := .pointer (some ⟨b, 0, none⟩)) rfl (fun w7 => by go_simp) ?_
  refine inv_norm (by go_simp; exact rfl) ?_
  refine inv_pure (v := .pointer (some ⟨b, 1, none⟩)) rfl (fun w7 => by go_simp) ?_
  refine inv_norm (by go_simp; exact rfl) ?_
  refine inv_load1 rfl rfl ⟨b, 1, none⟩ (.int .u64 n) rfl Tryz.underlying28 rfl (fun w7 h7 => by subst h7; exact c1) ?_
  refine inv_norm (by go_simp; exact rfl) ?_
  refine inv_pure (v := .agg #[.int .u8 0, .int .u64 n]) rfl (fun w7 => by go_simp) ?_
  refine inv_norm (by go_simp; exact rfl) ?_
  refine inv_loadAgg rfl 30 _ rfl w.heap.size 0 rfl (y.map u8v) Tryz.underlying30 rfl HSL.out (fun w7 h7 j v hv => by subst h7; exact blk_cells HQ.out j v hv) ?_
  refine inv_norm (by go_simp; exact rfl) ?_
  refine inv_pure (v := .agg (ndc 0 n y).toArray) rfl (fun w7 => by go_simp; exact node_build _ _ y hh) ?_
  refine inv_norm (by go_simp; exact rfl) ?_
  refine inv_nil ?_
  rintro w7 rfl
  refine any1 7 (by kernel_rfl) ?_
  refine op_buildOneA rfl (by rfl) 173 179 _ rfl (ndc 0 n y) rfl Tryz.underlying173 (node_size.trans (congrArg some (ndc_len 0 n hh).symm)) node_zero (by rw [ndc_len 0 n hh]; omega) (by rw [ndc_len 0 n hh]; omega) ?_
  refine inv_act (by go_simp; exact rfl) ?_
  refine any1 8 (by kernel_rfl) ?_
  refine op_asg rfl (by rfl) rfl (.slice (some ⟨W.heap.size, 0, none⟩) 1 1) rfl ?_
  refine inv_act (by go_simp; exact rfl) ?_
  refine wpAny_done (by kernel_rfl) ?_ _
  have HX2 := Lib.hid ((HX.out.drew).alloc (.cells (ndc 0 n y).toArray 179))
  have HQ2 := Lib.hid (Ext.blk (((Upd.refl none' W).drew).alloc (.cells (ndc 0 n y).toArray 179)) HQ.out)
  have HT2 := Lib.hid (HT.out.ext (((Upd.refl none' W).drew).alloc (.cells (ndc 0 n y).toArray 179)))
  have HD2 := Lib.hid (HD.out.ext (((Upd.refl none' W).drew).alloc (.cells (ndc 0 n y).toArray 179)))
  have HWS := Lib.hid (show w.heap.size + 1 ≤ W.heap.size by rw [← hW]; simp)
  have HO2 := Lib.hid (own_one W.drew (B := w.heap.size + 1) (e := 179) (ndc 0 n y) (ndc_len 0 n hh) HWS.out)
  have HHH := Lib.hid hh
  have HH32 := Lib.hid h32
  have HHO := Lib.hid ho
  have HHL := Lib.hid hl
  have HHN := Lib.hid hn
  have HD0 := Lib.hid D
  have HT0 := Lib.hid htab
  obtain ⟨i0, hi0, hz0, hz1, hz2⟩ := info_parts info_hash
  clear hW HD HT HTB HX HQ c0 c1 C hxc hne D hh h32 htab hT hG hl ho hn
  generalize World.alloc W.drew (.cells (ndc 0 n y).toArray 179) = w2 at *
  generalize hoo : ones n = o at *
  go_wp2_with fail
  go_loopw [7, 41] (fun v jv wr => AdRel w.heap.size n l y o w v jv wr) (fun _ jv _ => o - (RowKit.intOf jv).toNat)
  case atStart => exact ⟨0, Nat.zero_le _, rfl, by rw [nds_zero]; exact HO2.out, ⟨y, (cr_zero nodeH l y).symm, HHH.out, HQ2.out⟩, Upd.ext HX2.out _⟩
  case round =>
    obtain ⟨j, hj, rfl, how, ⟨x, hx, hx32, hq⟩, hu⟩ := hrel
    obtain ⟨vA, vc, rfl⟩ := own_sl how
    have HQQ := Lib.hid hq
    have HXE := Lib.hid hx
    have HX32 := Lib.hid hx32
    have HU := Lib.hid hu
    have HOW := Lib.hid how
    have HDW : Hid (BldAt B wr b (.slice LA l.length lc) n l) := Lib.hid (HD0.out.upd hu (fun g hg e => by
      have e2 : w.heap.size ≤ g := e
      rcases hg with hg | hg
      · have e3 : g = b := hg
        have := lt_of_blk HD0.out.blk
        omega
      · have := (HD0.out.row.lt g hg).2
        omega))
    have HT1 : Hid (ShaTab wr) := Lib.hid ((HT0.out).upd hu (fun e => by have e2 : w.heap.size ≤ 21 := e; have := HG.out; omega))
    have HSXX := Lib.hid (hash_size32 x hx32)
    clear hu how hx32 hx hq
    by_cases hlt : j < o
    · have hji : (j : Int) < o := by omega
      obtain ⟨m, hm⟩ : ∃ m, m = l.length - 1 - j := ⟨_, rfl⟩
      have hlo := HHO.out
      have hml : m < l.length := by omega
      have hll := HHL.out
      have hs1 : IntKind.i64.wrap ((l.length : Int) - 1) = ((l.length - 1 : Nat) : Int) := by rw [show (l.length : Int) - 1 = ((l.length - 1 : Nat) : Int) by omega]; exact IntWalk.i64_in _ (by omega)
      have hs2 : IntKind.i64.wrap (((l.length - 1 : Nat) : Int) - j) = (m : Nat) := by rw [show ((l.length - 1 : Nat) : Int) - j = (m : Nat) by omega]; exact IntWalk.i64_in _ (by omega)
      obtain ⟨g, rfl, hgb⟩ : ∃ g, LA = some ⟨g, 0, none⟩ ∧ B ≤ g := by
        rcases own_form HDW.out.row with ⟨_, h⟩ | ⟨g, cr, hLA, hgb⟩
        · omega
        · exact ⟨g, by simpa using congrArg (fun v => match v with | .slice A _ _ => A | _ => none) hLA, hgb⟩
      have HXN := Lib.hid (show nodeH (l.getD m []) x = cr nodeH l (j + 1) y by rw [cr_succ nodeH _ _ _ (by omega), HXE.out, hm])
      have HY32 := Lib.hid (HH32.out.getD m hml)
      have HSY := Lib.hid (hash_size32 _ HY32.out)
      have HA := Lib.hid (fun (w7 : World) (h7 : Ext wr w7) => hash_at (CellsAt.row32 (HDW.out.ext h7).row) HH32.out m hml)
      have HCW := Lib.hid (fun (w7 : World) (h7 : Ext wr w7) => (cell_of_blk (HDW.out.ext h7).blk 2 : w7.cell? ⟨b, 2, none⟩ = some (.slice (some ⟨g, 0, none⟩) l.length lc)))
      clear hm hlo hll hgb
      generalize hz0 : l.getD m [] = z at *
      clear hz0
      go_wp2_with fail
      refine region_inv_tail 16 (fun w' => Ext wr w') (by kernel_rfl) (by kernel_rfl) (by kernel_rfl) (by kernel_rfl) (by kernel_rfl) (by kernel_rfl) ((Upd.refl none' wr).drew) ?_
      simp only [List.take_succ_cons, List.take_zero, List.drop_succ_cons, List.drop_zero]
      refine inv_move rfl rfl (.pointer (some ⟨b, 0, none⟩)) rfl ?_
      refine inv_norm (by go_simp; exact rfl) ?_
      refine inv_pure (v := .pointer (some ⟨b, 0, none⟩)) rfl (fun w7 => by go_simp) ?_
      refine inv_norm (by go_simp; exact rfl) ?_
      refine inv_pure (v := .pointer (some ⟨b, 2, none⟩)) rfl (fun w7 => by go_simp) ?_
      refine inv_norm (by go_simp; exact rfl) ?_
      refine inv_load1 rfl rfl ⟨b, 2, none⟩ (.slice (some ⟨g, 0, none⟩) l.length lc) rfl Tryz.underlying65 rfl (fun w7 h7 => HCW.out w7 h7) ?_
      refine inv_norm (by go_simp; exact rfl) ?_
      refine inv_move rfl rfl (.pointer (some ⟨b, 0, none⟩)) rfl ?_
      refine inv_norm (by go_simp; exact rfl) ?_
      refine inv_pure (v := .pointer (some ⟨b, 0, none⟩)) rfl (fun w7 => by go_simp) ?_
      refine inv_norm (by go_simp; exact rfl) ?_
      refine inv_pure (v := .pointer (some ⟨b, 2, none⟩)) rfl (fun w7 => by go_simp) ?_
      refine inv_norm (by go_simp; exact rfl) ?_
      refine inv_load1 rfl rfl ⟨b, 2, none⟩ (.slice (some ⟨g, 0, none⟩) l.length lc) rfl Tryz.underlying65 rfl (fun w7 h7 => HCW.out w7 h7) ?_
      refine inv_norm (by go_simp; exact rfl) ?_
      refine inv_pure (v := .int .i64 l.length) rfl (fun w7 => by go_simp) ?_
      refine inv_norm (by go_simp; exact rfl) ?_
      refine inv_subI rfl rfl .i64 l.length 1 ((l.length - 1 : Nat) : Int) rfl rfl hs1 ?_
      refine inv_norm (by go_simp; exact rfl) ?_
      refine inv_move rfl rfl (.int .i64 j) rfl ?_
      refine inv_norm (by go_simp; exact rfl) ?_
      refine inv_subI rfl rfl .i64 ((l.length - 1 : Nat) : Int) j (m : Nat) rfl rfl hs2 ?_
      refine inv_norm (by go_simp; exact rfl) ?_
      refine inv_indexSlice rfl rfl g 0 l.length lc m 32 30 rfl rfl hml Tryz.underlying65 hash_size ?_
      refine inv_norm (by go_simp; exact rfl) ?_
      refine inv_loadAgg rfl 30 _ rfl g (0 + m * 32) (by go_simp) (z.map u8v) Tryz.underlying30 rfl HSY.out (fun w7 h7 i v hv => HA.out w7 h7 i v hv) ?_
      refine inv_norm (by go_simp; exact rfl) ?_
      refine inv_loadAgg rfl 30 _ rfl w.heap.size 0 rfl (x.map u8v) Tryz.underlying30 rfl HSXX.out (fun w7 h7 i v hv => blk_cells (Ext.blk h7 HQQ.out) i v hv) ?_
      refine inv_norm (by go_simp; exact rfl) ?_
      refine inv_call (v := hashV (nodeH z x)) rfl 36 [.tmp 57, .tmp 58] _ rfl body_node [hashV z, hashV x] rfl (fun w7 h7 => (node_h w7 z x HY32.out HX32.out (by have a1 := HG.out; have a3 := HU.out.size; have a4 := (show Ext wr w7 from h7).size; omega) (HT1.out.ext h7)).mono (by rintro e w8 ⟨rfl, u⟩; exact ⟨rfl, h7.trans u⟩)) ?_
      refine inv_norm (by go_simp; exact rfl) ?_
      refine inv_nil ?_
      intro w5 h5
      have HN32 := Lib.hid (show (nodeH z x).length = 32 from shaB_len _)
      have HSN := Lib.hid (hash_size32 (nodeH z x) HN32.out)
      have HON := Lib.hid (u8_ones (nodeH z x))
      have HLN := Lib.hid (show (x.map u8v).length = ((nodeH z x).map u8v).length by rw [List.length_map, List.length_map, HX32.out, HN32.out])
      have HQ5 := Lib.hid (Ext.blk h5 HQQ.out)
      have H5 := Lib.hid (show Ext wr w5 from h5)
      have HU3 := Lib.hid ((HU.out.trans (h5.mono (fun _ _ h => h.elim))).setRow (g := w.heap.size) (.inl (Nat.le_refl _)) ((nodeH z x).map u8v).toArray)
      have HQ3 := Lib.hid (blk_setRow HQ5.out ((nodeH z x).map u8v).toArray)
      have HOW3 := Lib.hid (ownsRow_upd (ownsRow_upd HOW.out h5 (fun _ _ => id)) ((Upd.refl (one w.heap.size) w5).setRow (g := w.heap.size) (.inr rfl) ((nodeH z x).map u8v).toArray) (fun gg hg e => by
        have e2 : gg = w.heap.size := e
        have := (HOW.out.lt gg hg).1
        omega))
      clear h5 HCW HA
      go_wp2_with (refine store_whole rfl 30 _ _ rfl w.heap.size rfl ((nodeH z x).map u8v) rfl HSN.out _ _ HQ5.out HLN.out HON.out ?_)
      clear HQ5 HLN
      generalize w5.setRow w.heap.size ((nodeH z x).map u8v).toArray = W3 at *
      generalize nodeH z x = X at *
      obtain ⟨j0, jz, hj0, hjz, hjs, hjb, hjc⟩ := node_parts
      have c1 : W3.cell? ⟨b, 1, none⟩ = some (.int .u64 n) := by
        refine (Upd.cell HU3.out (p := ⟨b, 1, none⟩) (lt_of_blk HD0.out.blk) (fun e => ?_)).trans (cell_of_blk HD0.out.blk 1)
        have e2 : w.heap.size ≤ b := e
        have := lt_of_blk HD0.out.blk
        omega
      have hj24 : j + 1 ≤ 64 := by have := HHO.out; have := HHL.out; omega
      obtain ⟨J, hJ⟩ : ∃ J : Int, J = ((j + 1 : Nat) : Int) := ⟨_, rfl⟩
      obtain ⟨I, hI⟩ : ∃ I : Int, I = ((n / 2 ^ (j + 1) : Nat) : Int) := ⟨_, rfl⟩
      have HND := Lib.hid (show ndc (j + 1) (n / 2 ^ (j + 1)) X = ndI J I X by rw [hJ, hI]; rfl)
      have ha1 : IntKind.i64.wrap ((j : Int) + 1) = J := by rw [hJ]; exact IntWalk.i64_in _ (by omega)
      have ha2 : IntKind.u8.wrap J = J := by rw [IntKind.wrap_u8']; omega
      have ha3 : ∀ w7 : World, (do eqGuard .shr 28 (.tmp 67) (.tmp 69) (.int .u64 n) (.int .i64 J); binOp .shr 28 (.int .u64 n) (.int .i64 J) : Sem Value).run Tryz.prog w7 = .ok (.int .u64 I) w7 := fun w7 => by
        rw [hJ, hI]
        have e : ((n / 2 ^ (j + 1) : Nat) : Int) = (n : Int) / 2 ^ (((j + 1 : Nat) : Int)).toNat := by simp
        simp only [eqGuard_shr, binOp_shr, Sem.run_bind, Sem.run_pure, Result.andThen_ok]
        rw [shift_shr_u64 .i64 n ((j + 1 : Nat) : Int) (by omega) (by omega), e]
        rfl
      have HA3 := Lib.hid ha3
      have HSX3 := Lib.hid (hash_size32 X HN32.out)
      have HNL := Lib.hid (show (ndI J I X).length = 34 by rw [← HND.out]; exact ndc_len (j + 1) (n / 2 ^ (j + 1)) HN32.out)
      have HLM := Lib.hid (show j + 1 + 1 ≤ maxLen ∧ (j + 1 + 1) * 48 ≤ 140737488355328 by unfold maxLen; omega)
      have HOA := Lib.hid (ownsRow_upd HOW3.out (((Upd.refl none' W3).drew).alloc (.cells (ndI J I X).toArray 179)) (fun _ _ => id))
      have HBB := Lib.hid (show w.heap.size + 1 ≤ (W3.drew.alloc (.cells (ndI J I X).toArray 179)).heap.size by have := lt_of_blk HQ3.out; simp; omega)
      have HNW := Lib.hid (CellsAt.new W3.drew (ndI J I X) 179)
      have HN1 := Lib.hid (show ∀ u ∈ ndI J I X, u.oneCell' = true by rw [← HND.out]; exact ndc_one (j + 1) (n / 2 ^ (j + 1)) X)
      have HXX := Lib.hid (show X = cr nodeH l (j + 1) y from HXN.out)
      have HJJ := Lib.hid hJ
      have HBD := Lib.hid (fun w7 : World => node_build (.int .u8 J) (.int .u64 I) X HN32.out)
      clear hI ha3 hj24 hJ
      refine wp_region_any (by kernel_rfl) ?_
      change wpAny _ _ _ _ _ _ _ (World.drew _)
      refine wpAny_take (i := 0) (v := .slice vA (j + 1) vc) rfl (by kernel_rfl) (by kernel_rfl) (by kernel_rfl) (fun _ _ _ h => h) (Or.inl ⟨by rfl, fun w7 => by go_simp⟩) ?_
      refine any_normQ (by go_simp; all_goals exact rfl) ?_
      refine wpAny_take (i := 1) (v := .int .i64 j) rfl (by kernel_rfl) (by kernel_rfl) (by kernel_rfl) (fun _ _ _ h => h) (Or.inl ⟨by rfl, fun w7 => by go_simp⟩) ?_
      refine any_normQ (by go_simp; all_goals exact rfl) ?_
      refine wpAny_take (i := 2) (v := .int .i64 J) rfl (by kernel_rfl) (by kernel_rfl) (by kernel_rfl) (fun _ _ _ h => h) (Or.inl ⟨by rfl, fun w7 => by go_simp⟩) ?_
      refine any_normQ (by go_simp; all_goals exact rfl) ?_
      refine wpAny_take (i := 3) (v := .int .u8 J) rfl (by kernel_rfl) (by kernel_rfl) (by kernel_rfl) (fun _ _ _ h => h) (Or.inl ⟨by rfl, fun w7 => by go_simp⟩) ?_
      refine any_normQ (by go_simp; all_goals exact rfl) ?_
      refine wpAny_take (i := 4) (v := .pointer (some ⟨b, 0, none⟩)) rfl (by kernel_rfl) (by kernel_rfl) (by kernel_rfl) (fun _ _ _ h => h) (Or.inl ⟨by rfl, fun w7 => by go_simp⟩) ?_
      refine any_normQ (by go_simp; all_goals exact rfl) ?_
      refine wpAny_take (i := 5) (v := .pointer (some ⟨b, 0, none⟩)) rfl (by kernel_rfl) (by kernel_rfl) (by kernel_rfl) (fun _ _ _ h => h) (Or.inl ⟨by rfl, fun w7 => by go_simp⟩) ?_
      refine any_normQ (by go_simp; all_goals exact rfl) ?_
      refine wpAny_take (i := 6) (v := .pointer (some ⟨b, 1, none⟩)) rfl (by kernel_rfl) (by kernel_rfl) (by kernel_rfl) (fun _ _ _ h => h) (Or.inl ⟨by rfl, fun w7 => by go_simp⟩) ?_
      refine any_normQ (by go_simp; all_goals exact rfl) ?_
      refine wpAny_take (i := 8) (v := .int .i64 j) rfl (by kernel_rfl) (by kernel_rfl) (by kernel_rfl) (fun _ _ _ h => h) (Or.inl ⟨by rfl, fun w7 => by go_simp⟩) ?_
      refine any_normQ (by go_simp; all_goals exact rfl) ?_
      refine wpAny_take (i := 9) (v := .int .i64 J) rfl (by kernel_rfl) (by kernel_rfl) (by kernel_rfl) (fun _ _ _ h => h) (Or.inl ⟨by rfl, fun w7 => by go_simp⟩) ?_
      refine any_normQ (by go_simp; all_goals exact rfl) ?_
      refine any_seq (t := 3) [7, 10, 11, 12, 13] [_, _, _, _, _] (fun w' => w' = W3.drew) (by kernel_rfl) rfl (by kernel_rfl) (by kernel_rfl) rfl ?_
      simp only [List.getElem_toArray, List.getElem_cons_succ, List.getElem_cons_zero]
      refine inv_load1 rfl rfl ⟨b, 1, none⟩ (.int .u64 n) rfl Tryz.underlying28 rfl (fun w7 h7 => by subst h7; exact c1) ?_
      refine inv_norm (by go_simp; exact rfl) ?_
      refine inv_bin rfl rfl (.int .u64 n) (.int .i64 J) (.int .u64 I) rfl rfl HA3.out ?_
      refine inv_norm (by go_simp; exact rfl) ?_
      refine inv_pure (v := .agg #[.int .u8 J, .int .u64 I]) rfl (fun w7 => by go_simp) ?_
      refine inv_norm (by go_simp; exact rfl) ?_
      refine inv_loadAgg rfl 30 _ rfl w.heap.size 0 rfl (X.map u8v) Tryz.underlying30 rfl HSX3.out (fun w7 h7 i v hv => by subst h7; exact blk_cells HQ3.out i v hv) ?_
      refine inv_norm (by go_simp; exact rfl) ?_
      refine inv_pure (v := .agg (ndI J I X).toArray) rfl (fun w7 => by have hX := HN32.out; go_simp; exact HBD.out w7) ?_
      refine inv_norm (by go_simp; exact rfl) ?_
      refine inv_nil ?_
      rintro w7 rfl
      refine any1 14 (by kernel_rfl) ?_
      refine op_buildOneA rfl (by rfl) 173 179 _ rfl (ndI J I X) rfl Tryz.underlying173 (node_size.trans (congrArg some HNL.out.symm)) node_zero (by rw [HNL.out]; omega) (by rw [HNL.out]; omega) ?_
      refine inv_act (by go_simp; exact rfl) ?_
      refine any1 15 (by kernel_rfl) ?_
      refine op_app1 rfl (by rfl) _ _ 173 rfl (w.heap.size + 1) 179 j0 jz 34 48 Tryz.underlying173 hj0 hjz hjs hjb hjc (by decide) (.slice vA (j + 1) vc) (j + 1) _ rfl HOA.out ⟨W3.heap.size, 0, none⟩ 1 1 (ndI J I X) rfl (by rw [HNL.out]) ?_ HN1.out HLM.out.1 HLM.out.2 HBB.out ?_
      · intro i u hu
        obtain ⟨ad, e, hc⟩ := HNW.out i u hu
        obtain rfl := Option.some.inj e
        exact hc
      intro v' w' hown hgrow hat
      have HST : Hid (AdRel w.heap.size n l y o w v' (.int .i64 J) w') := Lib.hid (by
        rw [← HND.out] at hown hgrow
        rw [HJJ.out]
        exact AdRel.step (o := o) hlt HXX.out HN32.out HQ3.out HOW3.out HU3.out rfl hown hgrow)
      clear hown hgrow hat
      refine inv_act (by go_simp; exact rfl) ?_
      refine any1 16 (by kernel_rfl) ?_
      refine op_asg rfl (by rfl) rfl v' rfl ?_
      refine inv_act (by go_simp; exact rfl) ?_
      refine wpAny_done (by kernel_rfl) ?_ _
      have ha4 : J = (j : Int) + 1 := HJJ.out
      go_wp2_with fail
      rw [← ha4]
      exact ⟨HST.out, by rw [ha4]; simp [RowKit.intOf]; omega⟩
    · have hjo : j = o := by omega
      have hji : ¬ (j : Int) < o := by omega
      subst hjo
      have hho := HHO.out
      have hhl := HHL.out
      obtain ⟨k, hk⟩ : ∃ k, k = l.length - j := ⟨_, rfl⟩
      have hkj : l.length - k = j := by omega
      have hkl : k ≤ l.length := by omega
      have hs3 : IntKind.i64.wrap ((l.length : Int) - (j : Int)) = (k : Nat) := by rw [show (l.length : Int) - (j : Int) = (k : Nat) by omega]; exact IntWalk.i64_in _ (by omega)
      have c2 : wr.drew.cell? ⟨b, 2, none⟩ = some (.slice LA l.length lc) := cell_of_blk HDW.out.blk 2
      have HKJ := Lib.hid hkj
      have HKE := Lib.hid hk
      obtain ⟨A13, hA13⟩ : ∃ A13 : Option Addr, A13 = if lc = k then LA else LA.map (·.add (k * 32)) := ⟨_, rfl⟩
      have HA13 := Lib.hid hA13
      clear hho hk hlt hj hA13 hkj
      go_wp2_with fail
      refine region_inv_tail 12 (fun w' => w' = wr.drew) (by kernel_rfl) (by kernel_rfl) (by kernel_rfl) (by kernel_rfl) (by kernel_rfl) (by kernel_rfl) rfl ?_
      simp only [List.take_succ_cons, List.take_zero, List.drop_succ_cons, List.drop_zero]
      refine inv_move rfl rfl (.pointer (some ⟨b, 0, none⟩)) rfl ?_
      refine inv_norm (by go_simp; exact rfl) ?_
      refine inv_pure (v := .pointer (some ⟨b, 0, none⟩)) rfl (fun w7 => by go_simp) ?_
      refine inv_norm (by go_simp; exact rfl) ?_
      refine inv_pure (v := .pointer (some ⟨b, 2, none⟩)) rfl (fun w7 => by go_simp) ?_
      refine inv_norm (by go_simp; exact rfl) ?_
      refine inv_load1 rfl rfl ⟨b, 2, none⟩ (.slice LA l.length lc) rfl Tryz.underlying65 rfl (fun w7 h7 => by subst h7; exact c2) ?_
      refine inv_norm (by go_simp; exact rfl) ?_
      refine inv_move rfl rfl (.pointer (some ⟨b, 0, none⟩)) rfl ?_
      refine inv_norm (by go_simp; exact rfl) ?_
      refine inv_pure (v := .pointer (some ⟨b, 0, none⟩)) rfl (fun w7 => by go_simp) ?_
      refine inv_norm (by go_simp; exact rfl) ?_
      refine inv_pure (v := .pointer (some ⟨b, 2, none⟩)) rfl (fun w7 => by go_simp) ?_
      refine inv_norm (by go_simp; exact rfl) ?_
      refine inv_load1 rfl rfl ⟨b, 2, none⟩ (.slice LA l.length lc) rfl Tryz.underlying65 rfl (fun w7 h7 => by subst h7; exact c2) ?_
      refine inv_norm (by go_simp; exact rfl) ?_
      refine inv_pure (v := .int .i64 l.length) rfl (fun w7 => by go_simp) ?_
      refine inv_norm (by go_simp; exact rfl) ?_
      refine inv_move rfl rfl (.int .i64 j) rfl ?_
      refine inv_norm (by go_simp; exact rfl) ?_
      refine inv_subI rfl rfl .i64 l.length j (k : Nat) rfl rfl hs3 ?_
      refine inv_norm (by go_simp; exact rfl) ?_
      refine inv_pure (v := .slice A13 (l.length - k) (lc - k)) rfl (fun w7 => by rw [HA13.out]; exact run_slLo w7 rfl LA l.length lc k 32 30 rfl rfl hkl Tryz.underlying65 hash_size) ?_
      refine inv_norm (by go_simp; exact rfl) ?_
      refine inv_nil ?_
      rintro w5 rfl
      have HU3 : Hid (Upd (fpE b (.slice LA l.length lc)) w wr.drew) := Lib.hid ((HU.out.mono (fun g hg e => by have e2 : w.heap.size ≤ g := e; omega)).drew)
      have hlcL := row_capL HDW.out.row
      have HKC := Lib.hid (show k ≤ lc by omega)
      have HLA := Lib.hid (row_addr HDW.out.row)
      by_cases hj0 : j = 0
      · have HJ0 := Lib.hid (show l.length - k = 0 by have := HKJ.out; omega)
        have HR4 : Hid (wr.drew.ownsRow B 30 32 (.slice LA k lc) k (hcells (l.take k))) := Lib.hid (by rw [hcells_take k HH32.out]; exact row_cutE HDW.out.row hkl)
        have HB4 : Hid (wr.drew.heap[b]? = some (.cells #[.bool true, .int .u64 (n : Int), .slice LA l.length lc] 170 (0, 0))) := Lib.hid HDW.out.blk
        have HQ4 : Hid (wr.drew.heap[w.heap.size]? = some (.cells (x.map u8v).toArray 30 (0, 0))) := Lib.hid HQQ.out
        have HO4 : Hid (wr.drew.ownsRow (w.heap.size + 1) 179 34 (.slice vA (j + 1) vc) (j + 1) (nds n l y j)) := HOW
        have HU4 := HU3
        clear hj0 c2
        go_wp2_with (refine wpList_clear0 rfl _ 65 rfl 30 Tryz.underlying65 A13 (l.length - k) (lc - k) rfl HJ0.out ?_)
        generalize hW4 : wr.drew = W4 at *
        have c24 : W4.cell? ⟨b, 2, none⟩ = some (.slice LA l.length lc) := cell_of_blk HB4.out 2
        have HC24 := Lib.hid c24
        have HSX4 := Lib.hid (hash_size32 x HX32.out)
        have HXL := Lib.hid (show (x.map u8v).length = 32 by rw [List.length_map]; exact HX32.out)
        have HEX := Lib.hid (((Upd.refl none' W4).drew).alloc (.cells (x.map u8v).toArray 30))
        have HR5 := Lib.hid (ownsRow_upd HR4.out HEX.out (fun _ _ => id))
        have HB5 := Lib.hid (Ext.blk HEX.out HB4.out)
        have HO5 := Lib.hid (ownsRow_upd HO4.out HEX.out (fun _ _ => id))
        have HU5 := Lib.hid (HU4.out.drew.alloc (.cells (x.map u8v).toArray 30))
        have HBW := Lib.hid (show B ≤ (W4.drew.alloc (.cells (x.map u8v).toArray 30)).heap.size by have := lt_of_blk HB5.out; have := HD0.out.lo; omega)
        have HNW := Lib.hid (CellsAt.new W4.drew (x.map u8v) 30)
        have HX1 := Lib.hid (u8_ones x)
        have HLM := Lib.hid (show k + 1 ≤ maxLen ∧ (k + 1) * 32 ≤ 140737488355328 by unfold maxLen; omega)
        have HC25 := Lib.hid (show (W4.drew.alloc (.cells (x.map u8v).toArray 30)).cell? ⟨b, 2, none⟩ = some (.slice LA l.length lc) from cell_of_blk HB5.out 2)
        have HQX := Lib.hid (Ext.blk HEX.out HQ4.out)
        clear hW4 c24
        go_wp2_with fail
        refine wp_region_any (by kernel_rfl) ?_
        change wpAny _ _ _ _ _ _ _ (World.drew _)
        refine wpAny_take (i := 0) (v := .pointer (some ⟨b, 0, none⟩)) rfl (by kernel_rfl) (by kernel_rfl) (by kernel_rfl) (fun _ _ _ h => h) (Or.inl ⟨by rfl, fun w7 => by go_simp⟩) ?_
        refine any_normQ (by go_simp; all_goals exact rfl) ?_
        refine wpAny_take (i := 1) (v := .pointer (some ⟨b, 0, none⟩)) rfl (by kernel_rfl) (by kernel_rfl) (by kernel_rfl) (fun _ _ _ h => h) (Or.inl ⟨by rfl, fun w7 => by go_simp⟩) ?_
        refine any_normQ (by go_simp; all_goals exact rfl) ?_
        refine wpAny_take (i := 2) (v := .pointer (some ⟨b, 0, none⟩)) rfl (by kernel_rfl) (by kernel_rfl) (by kernel_rfl) (fun _ _ _ h => h) (Or.inl ⟨by rfl, fun w7 => by go_simp⟩) ?_
        refine any_normQ (by go_simp; all_goals exact rfl) ?_
        refine wpAny_take (i := 3) (v := .pointer (some ⟨b, 2, none⟩)) rfl (by kernel_rfl) (by kernel_rfl) (by kernel_rfl) (fun _ _ _ h => h) (Or.inl ⟨by rfl, fun w7 => by go_simp⟩) ?_
        refine any_normQ (by go_simp; all_goals exact rfl) ?_
        refine wpAny_take (i := 5) (v := .pointer (some ⟨b, 0, none⟩)) rfl (by kernel_rfl) (by kernel_rfl) (by kernel_rfl) (fun _ _ _ h => h) (Or.inl ⟨by rfl, fun w7 => by go_simp⟩) ?_
        refine any_normQ (by go_simp; all_goals exact rfl) ?_
        refine wpAny_take (i := 6) (v := .pointer (some ⟨b, 0, none⟩)) rfl (by kernel_rfl) (by kernel_rfl) (by kernel_rfl) (fun _ _ _ h => h) (Or.inl ⟨by rfl, fun w7 => by go_simp⟩) ?_
        refine any_normQ (by go_simp; all_goals exact rfl) ?_
        refine wpAny_take (i := 7) (v := .pointer (some ⟨b, 2, none⟩)) rfl (by kernel_rfl) (by kernel_rfl) (by kernel_rfl) (fun _ _ _ h => h) (Or.inl ⟨by rfl, fun w7 => by go_simp⟩) ?_
        refine any_normQ (by go_simp; all_goals exact rfl) ?_
        refine wpAny_take (i := 10) (v := .int .i64 j) rfl (by kernel_rfl) (by kernel_rfl) (by kernel_rfl) (fun _ _ _ h => h) (Or.inl ⟨by rfl, fun w7 => by go_simp⟩) ?_
        refine any_normQ (by go_simp; all_goals exact rfl) ?_
        refine any_seqM (t := 4) 14 (W4.drew.alloc (.cells (x.map u8v).toArray 30)) [4, 8, 9, 11, 12, 13, 14] [_, _, _, _, _, _, _] (by kernel_rfl) rfl (by kernel_rfl) (by kernel_rfl) (by kernel_rfl) (by kernel_rfl) ?_
        simp only [List.getElem_toArray, List.getElem_cons_succ, List.getElem_cons_zero]
        refine m_read (v := .slice LA l.length lc) rfl (by decide) (run_ld1 _ rfl ⟨b, 2, none⟩ _ rfl Tryz.underlying65 rfl HC24.out) (run_ld1 _ rfl ⟨b, 2, none⟩ _ rfl Tryz.underlying65 rfl HC25.out) ?_
        refine m_norm (by go_simp; exact rfl) ?_
        refine m_read (v := .slice LA l.length lc) rfl (by decide) (run_ld1 _ rfl ⟨b, 2, none⟩ _ rfl Tryz.underlying65 rfl HC24.out) (run_ld1 _ rfl ⟨b, 2, none⟩ _ rfl Tryz.underlying65 rfl HC25.out) ?_
        refine m_norm (by go_simp; exact rfl) ?_
        refine m_read (v := .int .i64 l.length) rfl (by decide) (by go_simp) (by go_simp) ?_
        refine m_norm (by go_simp; exact rfl) ?_
        refine m_read (v := .int .i64 (k : Nat)) rfl (by decide) (by go_simp) (by go_simp) ?_
        refine m_norm (by go_simp; exact rfl) ?_
        refine m_read (v := .slice LA k lc) rfl (by decide) (run_slHi _ rfl LA l.length lc k 32 30 rfl HLA.out rfl HKC.out Tryz.underlying65 hash_size) (run_slHi _ rfl LA l.length lc k 32 30 rfl HLA.out rfl HKC.out Tryz.underlying65 hash_size) ?_
        refine m_norm (by go_simp; exact rfl) ?_
        refine m_read (v := .agg (x.map u8v).toArray) rfl (by decide) (run_ld _ 30 _ rfl w.heap.size 0 rfl (x.map u8v) Tryz.underlying30 rfl HSX4.out (fun i v hv => blk_cells HQ4.out i v hv)) (run_ld _ 30 _ rfl w.heap.size 0 rfl (x.map u8v) Tryz.underlying30 rfl HSX4.out (fun i v hv => blk_cells HQX.out i v hv)) ?_
        refine m_norm (by go_simp; exact rfl) ?_
        refine m_make (v := .slice (some ⟨W4.heap.size, 0, none⟩) 1 1) rfl (run_buildOneA _ 65 30 _ rfl (x.map u8v) rfl Tryz.underlying65 (hash_size.trans (congrArg some HXL.out.symm)) hash_zero (by rw [HXL.out]; omega) (by rw [HXL.out]; omega)) ?_
        refine m_norm (by go_simp; exact rfl) ?_
        refine m_nil ?_
        refine any1 15 (by kernel_rfl) ?_
        refine op_app1 rfl (by rfl) _ _ 65 rfl B 30 i0 _ 32 32 Tryz.underlying65 hi0 hz0 hz1 hz2 rfl (by decide) (.slice LA k lc) k _ rfl HR5.out ⟨W4.heap.size, 0, none⟩ 1 1 (x.map u8v) rfl (by rw [HXL.out]) ?_ HX1.out HLM.out.1 HLM.out.2 HBW.out ?_
        · intro i u hu
          obtain ⟨ad, e, hc⟩ := HNW.out i u hu
          obtain rfl := Option.some.inj e
          exact hc
        intro v' w6 hown hgrow hat
        have HOWN := Lib.hid hown
        have HOB := Lib.hid (show (Value.slice LA k lc).ownBlock = (Value.slice LA l.length lc).ownBlock by cases LA <;> rfl)
        have HAT : Hid (∀ g, v'.ownBlock = some g → (Value.slice LA l.length lc).ownBlock = some g ∨ w.heap.size ≤ g) := Lib.hid (fun g hg => by
          rcases hat with e | e
          · left; rw [e, HOB.out] at hg; exact hg
          · right
            rw [e] at hg
            obtain rfl := Option.some.inj hg
            have := HU5.out.size
            simp at this ⊢
            omega)
        have hne : ∀ g, (Value.slice LA k lc).ownBlock = some g → g ≠ b := rowNe HR5.out HB5.out (by decide)
        have HB6 : Hid (w6.heap[b]? = some (.cells #[.bool true, .int .u64 (n : Int), .slice LA l.length lc] 170 (0, 0))) := Lib.hid ((hgrow.block b (lt_of_blk HB5.out) (fun e => hne b e.symm rfl)).trans HB5.out)
        have HO6 : Hid (w6.ownsRow (w.heap.size + 1) 179 34 (.slice vA (j + 1) vc) (j + 1) (nds n l y j)) := Lib.hid (ownsRow_upd (T := fun g => (Value.slice LA k lc).ownBlock = some g) HO5.out ((Upd.refl _ _).grown hgrow (fun g hg => .inr hg)) (fun g hg e => by
          have h1 := (HO5.out.lt g hg).1
          have h2 := (HD0.out.row.lt g (HOB.out.symm.trans e)).2
          omega))
        have HU6 : Hid (Upd (fpE b (.slice LA l.length lc)) w w6) := Lib.hid (HU5.out.grown hgrow (fun g hg => .inr (.inr (HOB.out.symm.trans hg))))
        clear hgrow hat hne hown
        refine inv_act (by go_simp; exact rfl) ?_
        refine any1 16 (by kernel_rfl) ?_
        refine op_val (v := .pointer (some ⟨b, 0, none⟩)) (w' := w6) rfl (by rfl) (by go_simp) ?_
        refine inv_act (by go_simp; exact rfl) ?_
        refine any1 17 (by kernel_rfl) ?_
        refine op_val (v := .pointer (some ⟨b, 2, none⟩)) (w' := w6) rfl (by rfl) (by go_simp) ?_
        refine inv_act (by go_simp; exact rfl) ?_
        refine any1 18 (by kernel_rfl) ?_
        refine op_store1 rfl (by rfl) 65 _ _ rfl ⟨b, 2, none⟩ rfl v' rfl (own_cells HOWN.out) (own_oneA HOWN.out) size_hashes _ (cell_of_blk HB6.out 2) (free_of_blk HB6.out 2) ?_
        have HB7 := Lib.hid (blk_set HB6.out 2 v')
        have HO7 := Lib.hid (ownsRow_upd (T := one b) HO6.out ((Upd.refl (one b) w6).setCell (p := ⟨b, 2, none⟩) (.inr rfl) v') (fun g hg e => by
          have h1 := (HO6.out.lt g hg).1
          have e2 : g = b := e
          have := lt_of_blk HD0.out.blk
          omega))
        have HR7 := Lib.hid (ownsRow_upd (T := one b) HOWN.out ((Upd.refl (one b) w6).setCell (p := ⟨b, 2, none⟩) (.inr rfl) v') (fun g hg e => rowNe HOWN.out HB6.out (by decide) g hg e))
        have HU7 := Lib.hid (HU6.out.setCell (p := ⟨b, 2, none⟩) (.inr (.inl rfl)) v')
        generalize w6.setCell ⟨b, 2, none⟩ v' = w7 at *
        refine inv_act (by go_simp; exact rfl) ?_
        refine wpAny_done (by kernel_rfl) ?_ _
        have c17 : w7.cell? ⟨b, 1, none⟩ = some (.int .u64 n) := cell_of_blk HB7.out 1
        have f17 := free_of_blk HB7.out 1
        have hn1 : IntKind.u64.wrap ((n : Int) + 1) = ((n + 1 : Nat) : Int) := by rw [IntKind.wrap_u64]; have := HHN.out; omega
        go_wp2_with fail
        go_ret2
        have hkk := HKE.out
        have hxe := HXE.out
        rw [hoo]
        refine ⟨.slice vA (j + 1) vc, v', rfl, ?_, ⟨?_, ?_, HD0.out.lo⟩, HAT.out, ?_⟩
        · exact ownLow (ownsRow_upd (T := one b) HO7.out ((Upd.refl (one b) w7).setCell (p := ⟨b, 1, none⟩) (.inr rfl) _) (fun g hg e => by
            have h1 := (HO7.out.lt g hg).1
            have e2 : g = b := e
            have := lt_of_blk HD0.out.blk
            omega)) (Nat.le_succ _)
        · exact blk_set HB7.out 1 _
        · rw [← hkk, ← hxe]
          have e1 : (l.take k ++ [x]).length = k + 1 := by simp; omega
          have e2 : hcells (l.take k ++ [x]) = hcells (l.take k) ++ x.map u8v := by simp [hcells]
          rw [e1, e2]
          exact ownsRow_upd (T := one b) HR7.out ((Upd.refl (one b) w7).setCell (p := ⟨b, 1, none⟩) (.inr rfl) _) (fun g hg e => rowNe HR7.out HB7.out (by decide) g hg e)
        · exact HU7.out.setCell (p := ⟨b, 1, none⟩) (.inr (.inl rfl)) _
      · obtain ⟨gA, hg0⟩ : ∃ g, LA = some ⟨g, 0, none⟩ := by
          rcases own_form HDW.out.row with ⟨_, h⟩ | ⟨g, cr, hLA, hgb⟩
          · have := HKJ.out; omega
          · exact ⟨g, by simpa using congrArg (fun v => match v with | .slice A _ _ => A | _ => none) hLA⟩
        subst hg0
        have hA : A13 = some ⟨gA, k * 32, none⟩ := by
          have := HKJ.out
          rw [HA13.out, if_neg (by omega)]
          simp only [Option.map_some, Addr.add_lit, Nat.zero_add]
        subst hA
        obtain ⟨cur, hcur, hlen, hcut⟩ := row_cut_over (m := k) (HDW.out.ext ((Upd.refl none' wr).drew)).row hkl
        have HGB := Lib.hid (rowNe HDW.out.row HDW.out.blk (by decide) gA rfl)
        have HGQ := Lib.hid ((HD0.out.row.lt gA rfl).2)
        have HCUR := Lib.hid hcur
        have HCUT := Lib.hid hcut
        have HFIT := Lib.hid (show k * 32 + (l.length - k) * (Value.agg zero32).cells.size ≤ cur.length by show k * 32 + (l.length - k) * 32 ≤ cur.length; omega)
        have HKJ2 := Lib.hid hkl
        clear hj0 c2 hcur hlen hcut HA13
        go_wp2_with ((refine wpList_clear rfl _ 65 rfl 30 i0 _ Tryz.underlying65 hi0 hz0 zero_oneC gA (k * 32) (l.length - k) (lc - k) cur 30 rfl HCUR.out HFIT.out ?_); intro vs hvs; have HVS := Lib.hid hvs; clear hvs)
        have HR4 : Hid ((wr.drew.setRow gA (over cur (k * 32) vs).toArray).ownsRow B 30 32 (.slice (some ⟨gA, 0, none⟩) k lc) k (hcells (l.take k))) := Lib.hid (by
          rw [hcells_take k HH32.out]
          exact HCUT.out vs (by rw [HVS.out]; exact HFIT.out))
        have HB4 : Hid ((wr.drew.setRow gA (over cur (k * 32) vs).toArray).heap[b]? = some (.cells #[.bool true, .int .u64 (n : Int), .slice (some ⟨gA, 0, none⟩) l.length lc] 170 (0, 0))) := Lib.hid (blk_setRow_ne (w := wr.drew) HDW.out.blk HGB.out.symm _)
        have HQ4 : Hid ((wr.drew.setRow gA (over cur (k * 32) vs).toArray).heap[w.heap.size]? = some (.cells (x.map u8v).toArray 30 (0, 0))) := Lib.hid (blk_setRow_ne (w := wr.drew) HQQ.out (by have := HGQ.out; omega) _)
        have HO4 : Hid ((wr.drew.setRow gA (over cur (k * 32) vs).toArray).ownsRow (w.heap.size + 1) 179 34 (.slice vA (j + 1) vc) (j + 1) (nds n l y j)) := Lib.hid (ownsRow_upd (T := one gA) HOW.out (((Upd.refl (one gA) wr).drew).setRow (.inr rfl) _) (fun gg hg e => by
          have h1 := (HOW.out.lt gg hg).1
          have e2 : gg = gA := e
          have := HGQ.out
          omega))
        have HU4 := Lib.hid (HU3.out.setRow (g := gA) (.inr (.inr rfl)) (over cur (k * 32) vs).toArray)
        generalize hW4 : wr.drew.setRow gA (over cur (k * 32) vs).toArray = W4 at *
        have c24 : W4.cell? ⟨b, 2, none⟩ = some (.slice (some ⟨gA, 0, none⟩) l.length lc) := cell_of_blk HB4.out 2
        have HC24 := Lib.hid c24
        have HSX4 := Lib.hid (hash_size32 x HX32.out)
        have HXL := Lib.hid (show (x.map u8v).length = 32 by rw [List.length_map]; exact HX32.out)
        have HEX := Lib.hid (((Upd.refl none' W4).drew).alloc (.cells (x.map u8v).toArray 30))
        have HR5 := Lib.hid (ownsRow_upd HR4.out HEX.out (fun _ _ => id))
        have HB5 := Lib.hid (Ext.blk HEX.out HB4.out)
        have HO5 := Lib.hid (ownsRow_upd HO4.out HEX.out (fun _ _ => id))
        have HU5 := Lib.hid (HU4.out.drew.alloc (.cells (x.map u8v).toArray 30))
        have HBW := Lib.hid (show B ≤ (W4.drew.alloc (.cells (x.map u8v).toArray 30)).heap.size by have := lt_of_blk HB5.out; have := HD0.out.lo; omega)
        have HNW := Lib.hid (CellsAt.new W4.drew (x.map u8v) 30)
        have HX1 := Lib.hid (u8_ones x)
        have HLM := Lib.hid (show k + 1 ≤ maxLen ∧ (k + 1) * 32 ≤ 140737488355328 by unfold maxLen; omega)
        have HC25 := Lib.hid (show (W4.drew.alloc (.cells (x.map u8v).toArray 30)).cell? ⟨b, 2, none⟩ = some (.slice (some ⟨gA, 0, none⟩) l.length lc) from cell_of_blk HB5.out 2)
        have HQX := Lib.hid (Ext.blk HEX.out HQ4.out)
        clear hW4 c24
        go_wp2_with fail
        refine wp_region_any (by kernel_rfl) ?_
        change wpAny _ _ _ _ _ _ _ (World.drew _)
        refine wpAny_take (i := 0) (v := .pointer (some ⟨b, 0, none⟩)) rfl (by kernel_rfl) (by kernel_rfl) (by kernel_rfl) (fun _ _ _ h => h) (Or.inl ⟨by rfl, fun w7 => by go_simp⟩) ?_
        refine any_normQ (by go_simp; all_goals exact rfl) ?_
        refine wpAny_take (i := 1) (v := .pointer (some ⟨b, 0, none⟩)) rfl (by kernel_rfl) (by kernel_rfl) (by kernel_rfl) (fun _ _ _ h => h) (Or.inl ⟨by rfl, fun w7 => by go_simp⟩) ?_
        refine any_normQ (by go_simp; all_goals exact rfl) ?_
        refine wpAny_take (i := 2) (v := .pointer (some ⟨b, 0, none⟩)) rfl (by kernel_rfl) (by kernel_rfl) (by kernel_rfl) (fun _ _ _ h => h) (Or.inl ⟨by rfl, fun w7 => by go_simp⟩) ?_
        refine any_normQ (by go_simp; all_goals exact rfl) ?_
        refine wpAny_take (i := 3) (v := .pointer (some ⟨b, 2, none⟩)) rfl (by kernel_rfl) (by kernel_rfl) (by kernel_rfl) (fun _ _ _ h => h) (Or.inl ⟨by rfl, fun w7 => by go_simp⟩) ?_
        refine any_normQ (by go_simp; all_goals exact rfl) ?_
        refine wpAny_take (i := 5) (v := .pointer (some ⟨b, 0, none⟩)) rfl (by kernel_rfl) (by kernel_rfl) (by kernel_rfl) (fun _ _ _ h => h) (Or.inl ⟨by rfl, fun w7 => by go_simp⟩) ?_
        refine any_normQ (by go_simp; all_goals exact rfl) ?_
        refine wpAny_take (i := 6) (v := .pointer (some ⟨b, 0, none⟩)) rfl (by kernel_rfl) (by kernel_rfl) (by kernel_rfl) (fun _ _ _ h => h) (Or.inl ⟨by rfl, fun w7 => by go_simp⟩) ?_
        refine any_normQ (by go_simp; all_goals exact rfl) ?_
        refine wpAny_take (i := 7) (v := .pointer (some ⟨b, 2, none⟩)) rfl (by kernel_rfl) (by kernel_rfl) (by kernel_rfl) (fun _ _ _ h => h) (Or.inl ⟨by rfl, fun w7 => by go_simp⟩) ?_
        refine any_normQ (by go_simp; all_goals exact rfl) ?_
        refine wpAny_take (i := 10) (v := .int .i64 j) rfl (by kernel_rfl) (by kernel_rfl) (by kernel_rfl) (fun _ _ _ h => h) (Or.inl ⟨by rfl, fun w7 => by go_simp⟩) ?_
        refine any_normQ (by go_simp; all_goals exact rfl) ?_
        refine any_seqM (t := 4) 14 (W4.drew.alloc (.cells (x.map u8v).toArray 30)) [4, 8, 9, 11, 12, 13, 14] [_, _, _, _, _, _, _] (by kernel_rfl) rfl (by kernel_rfl) (by kernel_rfl) (by kernel_rfl) (by kernel_rfl) ?_
        simp only [List.getElem_toArray, List.getElem_cons_succ, List.getElem_cons_zero]
        refine m_read (v := .slice (some ⟨gA, 0, none⟩) l.length lc) rfl (by decide) (run_ld1 _ rfl ⟨b, 2, none⟩ _ rfl Tryz.underlying65 rfl HC24.out) (run_ld1 _ rfl ⟨b, 2, none⟩ _ rfl Tryz.underlying65 rfl HC25.out) ?_
        refine m_norm (by go_simp; exact rfl) ?_
        refine m_read (v := .slice (some ⟨gA, 0, none⟩) l.length lc) rfl (by decide) (run_ld1 _ rfl ⟨b, 2, none⟩ _ rfl Tryz.underlying65 rfl HC24.out) (run_ld1 _ rfl ⟨b, 2, none⟩ _ rfl Tryz.underlying65 rfl HC25.out) ?_
        refine m_norm (by go_simp; exact rfl) ?_
        refine m_read (v := .int .i64 l.length) rfl (by decide) (by go_simp) (by go_simp) ?_
        refine m_norm (by go_simp; exact rfl) ?_
        refine m_read (v := .int .i64 (k : Nat)) rfl (by decide) (by go_simp) (by go_simp) ?_
        refine m_norm (by go_simp; exact rfl) ?_
        refine m_read (v := .slice (some ⟨gA, 0, none⟩) k lc) rfl (by decide) (run_slHi _ rfl (some ⟨gA, 0, none⟩) l.length lc k 32 30 rfl HLA.out rfl HKC.out Tryz.underlying65 hash_size) (run_slHi _ rfl (some ⟨gA, 0, none⟩) l.length lc k 32 30 rfl HLA.out rfl HKC.out Tryz.underlying65 hash_size) ?_
        refine m_norm (by go_simp; exact rfl) ?_
        refine m_read (v := .agg (x.map u8v).toArray) rfl (by decide) (run_ld _ 30 _ rfl w.heap.size 0 rfl (x.map u8v) Tryz.underlying30 rfl HSX4.out (fun i v hv => blk_cells HQ4.out i v hv)) (run_ld _ 30 _ rfl w.heap.size 0 rfl (x.map u8v) Tryz.underlying30 rfl HSX4.out (fun i v hv => blk_cells HQX.out i v hv)) ?_
        refine m_norm (by go_simp; exact rfl) ?_
        refine m_make (v := .slice (some ⟨W4.heap.size, 0, none⟩) 1 1) rfl (run_buildOneA _ 65 30 _ rfl (x.map u8v) rfl Tryz.underlying65 (hash_size.trans (congrArg some HXL.out.symm)) hash_zero (by rw [HXL.out]; omega) (by rw [HXL.out]; omega)) ?_
        refine m_norm (by go_simp; exact rfl) ?_
        refine m_nil ?_
        refine any1 15 (by kernel_rfl) ?_
        refine op_app1 rfl (by rfl) _ _ 65 rfl B 30 i0 _ 32 32 Tryz.underlying65 hi0 hz0 hz1 hz2 rfl (by decide) (.slice (some ⟨gA, 0, none⟩) k lc) k _ rfl HR5.out ⟨W4.heap.size, 0, none⟩ 1 1 (x.map u8v) rfl (by rw [HXL.out]) ?_ HX1.out HLM.out.1 HLM.out.2 HBW.out ?_
        · intro i u hu
          obtain ⟨ad, e, hc⟩ := HNW.out i u hu
          obtain rfl := Option.some.inj e
          exact hc
        intro v' w6 hown hgrow hat
        have HOWN := Lib.hid hown
        have HOB := Lib.hid (show (Value.slice (some ⟨gA, 0, none⟩) k lc).ownBlock = (Value.slice (some ⟨gA, 0, none⟩) l.length lc).ownBlock by rfl)
        have HAT : Hid (∀ g, v'.ownBlock = some g → (Value.slice (some ⟨gA, 0, none⟩) l.length lc).ownBlock = some g ∨ w.heap.size ≤ g) := Lib.hid (fun g hg => by
          rcases hat with e | e
          · left; rw [e, HOB.out] at hg; exact hg
          · right
            rw [e] at hg
            obtain rfl := Option.some.inj hg
            have := HU5.out.size
            simp at this ⊢
            omega)
        have hne : ∀ g, (Value.slice (some ⟨gA, 0, none⟩) k lc).ownBlock = some g → g ≠ b := rowNe HR5.out HB5.out (by decide)
        have HB6 : Hid (w6.heap[b]? = some (.cells #[.bool true, .int .u64 (n : Int), .slice (some ⟨gA, 0, none⟩) l.length lc] 170 (0, 0))) := Lib.hid ((hgrow.block b (lt_of_blk HB5.out) (fun e => hne b e.symm rfl)).trans HB5.out)
        have HO6 : Hid (w6.ownsRow (w.heap.size + 1) 179 34 (.slice vA (j + 1) vc) (j + 1) (nds n l y j)) := Lib.hid (ownsRow_upd (T := fun g => (Value.slice (some ⟨gA, 0, none⟩) k lc).ownBlock = some g) HO5.out ((Upd.refl _ _).grown hgrow (fun g hg => .inr hg)) (fun g hg e => by
          have h1 := (HO5.out.lt g hg).1
          have h2 := (HD0.out.row.lt g (HOB.out.symm.trans e)).2
          omega))
        have HU6 : Hid (Upd (fpE b (.slice (some ⟨gA, 0, none⟩) l.length lc)) w w6) := Lib.hid (HU5.out.grown hgrow (fun g hg => .inr (.inr (HOB.out.symm.trans hg))))
        clear hgrow hat hne hown
        refine inv_act (by go_simp; exact rfl) ?_
        refine any1 16 (by kernel_rfl) ?_
        refine op_val (v := .pointer (some ⟨b, 0, none⟩)) (w' := w6) rfl (by rfl) (by go_simp) ?_
        refine inv_act (by go_simp; exact rfl) ?_
        refine any1 17 (by kernel_rfl) ?_
        refine op_val (v := .pointer (some ⟨b, 2, none⟩)) (w' := w6) rfl (by rfl) (by go_simp) ?_
        refine inv_act (by go_simp; exact rfl) ?_
        refine any1 18 (by kernel_rfl) ?_
        refine op_store1 rfl (by rfl) 65 _ _ rfl ⟨b, 2, none⟩ rfl v' rfl (own_cells HOWN.out) (own_oneA HOWN.out) size_hashes _ (cell_of_blk HB6.out 2) (free_of_blk HB6.out 2) ?_
        have HB7 := Lib.hid (blk_set HB6.out 2 v')
        have HO7 := Lib.hid (ownsRow_upd (T := one b) HO6.out ((Upd.refl (one b) w6).setCell (p := ⟨b, 2, none⟩) (.inr rfl) v') (fun g hg e => by
          have h1 := (HO6.out.lt g hg).1
          have e2 : g = b := e
          have := lt_of_blk HD0.out.blk
          omega))
        have HR7 := Lib.hid (ownsRow_upd (T := one b) HOWN.out ((Upd.refl (one b) w6).setCell (p := ⟨b, 2, none⟩) (.inr rfl) v') (fun g hg e => rowNe HOWN.out HB6.out (by decide) g hg e))
        have HU7 := Lib.hid (HU6.out.setCell (p := ⟨b, 2, none⟩) (.inr (.inl rfl)) v')
        generalize w6.setCell ⟨b, 2, none⟩ v' = w7 at *
        refine inv_act (by go_simp; exact rfl) ?_
        refine wpAny_done (by kernel_rfl) ?_ _
        have c17 : w7.cell? ⟨b, 1, none⟩ = some (.int .u64 n) := cell_of_blk HB7.out 1
        have f17 := free_of_blk HB7.out 1
        have hn1 : IntKind.u64.wrap ((n : Int) + 1) = ((n + 1 : Nat) : Int) := by rw [IntKind.wrap_u64]; have := HHN.out; omega
        go_wp2_with fail
        go_ret2
        have hkk := HKE.out
        have hxe := HXE.out
        rw [hoo]
        refine ⟨.slice vA (j + 1) vc, v', rfl, ?_, ⟨?_, ?_, HD0.out.lo⟩, HAT.out, ?_⟩
        · exact ownLow (ownsRow_upd (T := one b) HO7.out ((Upd.refl (one b) w7).setCell (p := ⟨b, 1, none⟩) (.inr rfl) _) (fun g hg e => by
            have h1 := (HO7.out.lt g hg).1
            have e2 : g = b := e
            have := lt_of_blk HD0.out.blk
            omega)) (Nat.le_succ _)
        · exact blk_set HB7.out 1 _
        · rw [← hkk, ← hxe]
          have e1 : (l.take k ++ [x]).length = k + 1 := by simp; omega
          have e2 : hcells (l.take k ++ [x]) = hcells (l.take k) ++ x.map u8v := by simp [hcells]
          rw [e1, e2]
          exact ownsRow_upd (T := one b) HR7.out ((Upd.refl (one b) w7).setCell (p := ⟨b, 1, none⟩) (.inr rfl) _) (fun g hg e => rowNe HR7.out HB7.out (by decide) g hg e)
        · exact HU7.out.setCell (p := ⟨b, 1, none⟩) (.inr (.inl rfl)) _
end Go.Proofs.YtnkcfkjeeennmaaGreatDoor
