/- cartularyref27.EncodeAnswer by a contract: the same bytes, the same error. -/
import Derived.Test.YtkdhjighomnooaaDoorTwin3
import Derived.Test.YtkdhjighomnooaaDoorOncePlain
import Derived.Test.YtkdhjighomnooaaDoorAny
import Derived.Deep.CutRange
namespace Go.Proofs.YtkdhjighomnooaaDoor
open Go.RowKit Go.Lib

section
variable {P : Program} {ops : Array Oper} {Q : Exit → Act → World → Prop} {a : Act} {w : World} {i : Nat} {o : Oper} {K : Act → World → Prop}
theorem any_norm {md : Region.Mode} {n : Nat} {listed : Array Bool} {a' : Act} (h : a = a') (hk : wpAny P md ops Q n listed a' w) : wpAny P md ops Q n listed a w := h ▸ hk
theorem op_assign (hi : ops[i]? = some o) (hw : Region.wanted o (yielded ops a.tmps) = true) {x : Operand} (ho : o.op = .assign x) (v : Value) (hv : a.eval x = v) (h : K (a.put o.dst v) w) : wpOp P ops Q i K a w := by
  subst hv
  exact op_val hi hw (by simp [execOp, ho]) h
theorem op_build1 (hi : ops[i]? = some o) (hw : Region.wanted o (yielded ops a.tmps) = true) (t e : TypeId) (y : Operand) (ho : o.op = .buildSlice t 1 #[(0, y)]) (v : Value) (hy : a.eval y = v) (hu : P.underlying t = some (.slice e))
    (ie : TypeInfo) (z : Value) (hie : P.info? e = some ie) (hz : ie.zero = some z) (hs : ie.size = 1) (hv : v.cells = #[v]) (h : K (a.put o.dst (.slice (some ⟨w.heap.size, 0, none⟩) 1 1)) (w.alloc (.cells #[v] e))) : wpOp P ops Q i K a w := by
  refine op_val hi hw ?_ h
  have hr := run_buildSlice (P := P) w t e 1 #[(0, v)] #[v] ie z hu hie hz (by rw [hs]; omega) (by rw [hs]; omega) (by
    simp only [Instr.fill, hs, Nat.zero_mul, Nat.one_mul, hv]
    rw [if_neg (by simp)]
    have := fold_all [v] ((Array.range 1).map (z.cells[· % z.cells.size]!)) (by simp)
    simpa using this)
  simp only [execOp, ho, List.map_toArray, List.map_cons, List.map_nil, hy, Sem.run_bind, hr, Result.andThen_ok]
  rfl
theorem op_appStr (hgi : ops[i]? = some o) (hw : Region.wanted o (yielded ops a.tmps) = true) (sl x : Operand) (t u : TypeId)
    (ho : o.op = .call { callee := .builtin .append, args := #[sl, x], argTypes := #[t, u] })
    (base : Nat) (e : TypeId) (it : TypeInfo) (ht : P.underlying t = some (.slice e)) (hu : P.underlying u = some .string) (hi : P.info? e = some it) (hz : it.zero = some (.int .u8 0))
    (hsize : it.size = 1) (hby : it.bytes = 1)
    (v : Value) (n : Nat) (xs : List Value) (hs : a.eval sl = v) (hown : w.ownsRow base e 1 v n xs) (s : ByteArray) (hx : a.eval x = .string s)
    (h63 : n + s.size ≤ maxLen) (hbytes : n + s.size ≤ 140737488355328) (hbase : base ≤ w.heap.size)
    (h : ∀ v' w', w'.ownsRow base e 1 v' (n + s.size) (xs ++ strCells s) → w.grownBy w' v.ownBlock → (v'.ownBlock = v.ownBlock ∨ v'.ownBlock = some w.heap.size) → K (a.put o.dst v') w') : wpOp P ops Q i K a w := by
  obtain ⟨v', w', hr, h2, h3, _⟩ := run_append_own_string (P := P) w base t u o.type e it ht hu hi hz hsize hby v n xs hown s h63 hbytes hbase
  have h4 := append_block_str w base t u o.type e it ht hu hi hz hsize hby v n xs hown s h63 hbytes v' w' hr
  refine op_val hgi hw ?_ (h v' w' h2 h3 h4)
  unfold execOp
  simp only [ho, resolve, invoke, builtin, Sem.run_bind, Sem.run_pure, Result.andThen_ok, List.map_toArray, List.map_cons, List.map_nil, hs, hx, hr]
end
/-- A new block of one byte is an own row. -/
theorem own_fresh {w0 w : World} {B : Nat} (h : Ext w0 w) (hB : B ≤ w0.heap.size) (v : Value) : (w.alloc (.cells #[v] 5)).ownsRow B 5 1 (.slice (some ⟨w.heap.size, 0, none⟩) 1 1) 1 [v] :=
  ⟨rfl, .inr ⟨w.heap.size, 1, #[v], rfl, Nat.le_trans hB h.size, blk_alloc _ _, Nat.le_refl _, by decide, rfl, rfl⟩⟩
theorem body_rvar : hasBody Tryd.prog 32 = true := by kernel_rfl
def efC : EV → Int
  | none => 0
  | some (k, _) => k
def efA : EV → Int
  | none => 0
  | some (_, none) => -1
  | some (_, some n) => n
abbrev efV (x : EV) : Value := .agg #[.int .i64 (efC x), .int .i64 (efA x)]
theorem fault_size2 : (Tryd.prog.info? 34).map (·.size) = some 2 := by kernel_rfl
theorem resR (tmps : Array Value) (w : World) (g : Nat) (cs : Array Value) (v : Value) (hv : tmps.getD 2 undef = v) (hp : tmps.getD 3 undef = .pointer (some ⟨g, 0, none⟩)) (hg : w.heap[g]? = some (.cells cs 34 (0, 0))) (hs : cs.size = 2) :
    (results Tryd.f10 tmps).run Tryd.prog w = .ok (.tuple #[v, .agg cs]) w := by
  subst hv
  have hp' : tmps[3]?.getD undef = .pointer (some ⟨g, 0, none⟩) := by simpa using hp
  have hr : Tryd.f10.results = #[.tmp 2, .cell 3 34] := rfl
  simp [results, hr, hp', asAddr, run_loadVar_row w g 34 34 cs (0, 0) _ hg Tryd.underlying34 rfl (by rw [hs]; exact fault_size2)]
def RefPost (w : World) (rb : List UInt8) (re : EV) (e : Ending) (w' : World) : Prop := e = .returned (.tuple #[.string (str rb), efV re]) ∧ Ext w w'
theorem fault_one (c d : Int) : ∀ u ∈ ([.int .i64 c, .int .i64 d] : List Value), u.oneCell' = true := fun u hu => by
  simp only [List.mem_cons, List.not_mem_nil, or_false] at hu
  rcases hu with rfl | rfl <;> rfl

set_option maxRecDepth 8000 in
set_option maxHeartbeats 8000000 in
theorem refA_zero {w : World} (size : Nat) (hs : List (List UInt8)) (leaf : ByteArray) (ha : (AnsD.mk 0 size hs leaf).Ok) (ad : Option Addr) (ca : Nat) (hx : HashesAt w ad hs) (rb : List UInt8) (re : EV)
    (hlim : Hid (65536 < leaf.size ∨ 32768 < hs.length → rb = [] ∧ re = some (4, none))) (hok : Hid (¬ (65536 < leaf.size ∨ 32768 < hs.length) → rb = wholeB (AnsD.mk 0 size hs leaf).body ∧ re = wholeE (AnsD.mk 0 size hs leaf).body)) :
    Calls Tryd.prog 10 #[.agg #[.int .u8 0, .int .u64 size, .slice ad hs.length ca, .string leaf]] w (RefPost w rb re) := by
  obtain ⟨_, h2, h3, h4, h5⟩ := ha
  simp only at h2 h3 h4 h5
  obtain ⟨i0, hi, hz0, hz1, hz2⟩ := info_parts info_u8
  have X := ((Upd.refl none' w).alloc (.cells #[.int .u8 0, .int .u64 size, .slice ad hs.length ca, .string leaf] 26)).alloc (.cells #[.int .i64 0, .int .i64 0] 34)
  have hb := blk_alloc_lt (blk_alloc w (.cells #[.int .u8 0, .int .u64 size, .slice ad hs.length ca, .string leaf] 26)) (.cells #[.int .i64 0, .int .i64 0] 34)
  have hz := blk_alloc (w.alloc (.cells #[.int .u8 0, .int .u64 size, .slice ad hs.length ca, .string leaf] 26)) (.cells #[.int .i64 0, .int .i64 0] 34)
  rw [World.size_alloc] at hz
  have CP : ∀ w1 : World, Calls Tryd.prog 31 #[.int .i64 4] w1 fun e w' => e = .returned (.agg #[.int .i64 4, .int .i64 (-1)]) ∧ Ext w1 w' := fun w1 => by
    have h := plain_any 4 w1
    rw [if_neg (by decide)] at h
    exact h
  have HXS := Lib.hid (hx.later X)
  have c0 := cell_of_blk hb 0
  have c2 := cell_of_blk hb 2
  have c3 := cell_of_blk hb 3
  simp only [List.size_toArray, List.getElem?_toArray, List.getElem?_cons_zero, List.getElem?_cons_succ] at c0 c2 c3
  have HX := Lib.hid X
  have HB := Lib.hid hb
  have HZ := Lib.hid hz
  have HSZ := Lib.hid h2
  have H3 := Lib.hid h3
  clear X hb hz hx h3
  go_enter Tryd.func10, Tryd.ntmps10
  by_cases hl : 65536 < leaf.size ∨ 32768 < hs.length
  · obtain ⟨rfl, rfl⟩ := hlim.out hl
    rcases (show 65536 < leaf.size ∨ (¬ 65536 < leaf.size ∧ 32768 < hs.length) by omega) with h1 | ⟨h1, h6⟩
    · have dl : (65536 : Int) < leaf.size := by omega
      clear hl h1
      go_wp2_with fail
      refine (CP _).mono ?_
      rintro e w1 ⟨rfl, u⟩
      have HZ1 := Lib.hid (Ext.blk u HZ.out)
      have hF := Lib.hid (blk_setRow HZ1.out #[.int .i64 4, .int .i64 (-1)])
      have HU := Lib.hid ((HX.out.trans u).setRow (g := w.heap.size + 1) (.inl (by omega)) #[.int .i64 4, .int .i64 (-1)])
      clear u CP
      go_wp2_with (refine store_whole rfl 34 _ _ rfl (w.heap.size + 1) rfl [.int .i64 4, .int .i64 (-1)] rfl fault_size2 [.int .i64 0, .int .i64 0] 34 HZ1.out rfl (fault_one _ _) ?_)
      exact bodyPost_ret (v := .tuple #[.string ⟨#[]⟩, .agg #[.int .i64 4, .int .i64 (-1)]]) (resR _ _ (w.heap.size + 1) _ _ rfl rfl hF.out rfl) rfl ⟨rfl, HU.out⟩
    · have dl : ¬ (65536 : Int) < leaf.size := by omega
      have dm : (32768 : Int) < hs.length := by omega
      clear hl h1 h6
      go_wp2_with fail
      refine (CP _).mono ?_
      rintro e w1 ⟨rfl, u⟩
      have HZ1 := Lib.hid (Ext.blk u HZ.out)
      have hF := Lib.hid (blk_setRow HZ1.out #[.int .i64 4, .int .i64 (-1)])
      have HU := Lib.hid ((HX.out.trans u).setRow (g := w.heap.size + 1) (.inl (by omega)) #[.int .i64 4, .int .i64 (-1)])
      clear u CP
      go_wp2_with (refine store_whole rfl 34 _ _ rfl (w.heap.size + 1) rfl [.int .i64 4, .int .i64 (-1)] rfl fault_size2 [.int .i64 0, .int .i64 0] 34 HZ1.out rfl (fault_one _ _) ?_)
      exact bodyPost_ret (v := .tuple #[.string ⟨#[]⟩, .agg #[.int .i64 4, .int .i64 (-1)]]) (resR _ _ (w.heap.size + 1) _ _ rfl rfl hF.out rfl) rfl ⟨rfl, HU.out⟩
  · obtain ⟨rfl, rfl⟩ := hok.out hl
    have dl : ¬ (65536 : Int) < leaf.size := by omega
    have dm : ¬ (32768 : Int) < hs.length := by omega
    have HLL := Lib.hid hl
    clear hl
    go_upto_region 7 with fail
    generalize hW : (w.alloc (.cells #[.int .u8 0, .int .u64 size, .slice ad hs.length ca, .string leaf] 26)).alloc (.cells #[.int .i64 0, .int .i64 0] 34) = W0 at *
    have hB0 : w.heap.size + 2 = W0.heap.size := by rw [← hW]; simp
    have HBE := Lib.hid hB0
    have HB00 := Lib.hid (Nat.le_of_eq hB0)
    clear hW hB0
    generalize hbb : w.heap.size + 2 = B0 at HBE HB00
    go_cut [4] from 50 to 56 (fun sv wx => wx.ownsRow B0 5 1 sv (0 :: varB size).length ((0 :: varB size : List UInt8).map u8v) ∧ Ext W0 wx)
    case first =>
      have PRE : Hid (∀ (v : Value) (w3 : World), w3.ownsRow B0 5 1 v (1 + (str (varB size)).size) ([.int .u8 0] ++ strCells (str (varB size))) → w3.ownsRow B0 5 1 v (0 :: varB size).length ((0 :: varB size : List UInt8).map u8v)) := Lib.hid (fun v w3 h => by
        rw [str_size, strCells_str] at h
        rw [List.length_cons, Nat.add_comm]; exact h)
      have HV1 := Lib.hid (show 1 + (str (varB size)).size ≤ maxLen by rw [str_size]; have := varB_len size; unfold maxLen; omega)
      have HV2 := Lib.hid (show 1 + (str (varB size)).size ≤ 140737488355328 by rw [str_size]; have := varB_len size; omega)
      refine wp_region_any (by kernel_rfl) ?_
      change wpAny _ _ _ _ _ _ _ (World.drew _)
      have HE : Hid (Ext W0 W0.drew) := Lib.hid ((Upd.refl none' W0).drew)
      have HB0 := HB00
      have HBX := HB
      generalize W0.drew = wd at HE ⊢
      (refine wpAny_take (i := 0) (v := ?_) rfl (by kernel_rfl) (by kernel_rfl) (by kernel_rfl) (fun _ _ _ h => h) (Or.inl ⟨by rfl, ?_⟩) ?_; rotate_left; (· (intro w; go_simp; all_goals (with_reducible rfl))); refine any_norm (by go_simp; all_goals exact rfl) ?_)
      (refine wpAny_take (i := 3) (v := ?_) rfl (by kernel_rfl) (by kernel_rfl) (by kernel_rfl) (fun _ _ _ h => h) (Or.inl ⟨by rfl, ?_⟩) ?_; rotate_left; (· (intro w; go_simp; all_goals (with_reducible rfl))); refine any_norm (by go_simp; all_goals exact rfl) ?_)
      refine any2 1 4 (by kernel_rfl) ?_ ?_
      · refine op_load1 rfl (by rfl) rfl ⟨w.heap.size, 0, none⟩ (.int .u8 0) rfl Tryd.underlying22 rfl (by rw [cell_of_blk (Ext.blk HE.out HBX.out)]; rfl) ?_
        refine any_norm (by go_simp; all_goals exact rfl) ?_
        refine any2 2 4 (by kernel_rfl) ?_ ?_
        · refine op_build1 rfl (by rfl) 60 5 _ rfl (.int .u8 0) rfl Tryd.underlying60 i0 (.int .u8 0) hi hz0 hz1 rfl ?_
          have HBB := Lib.hid (own_fresh HE.out HB0.out (.int .u8 0))
          replace HE := Lib.hid (HE.out.alloc (.cells #[.int .u8 0] 5))
          refine any_norm (by go_simp; all_goals exact rfl) ?_
          refine any1 4 (by kernel_rfl) ?_
          refine op_load1 rfl (by rfl) rfl ⟨w.heap.size, 1, none⟩ (.int .u64 size) rfl Tryd.underlying23 rfl (by rw [cell_of_blk (Ext.blk HE.out HBX.out)]; rfl) ?_
          refine any_norm (by go_simp; all_goals exact rfl) ?_
          refine any1 5 (by kernel_rfl) ?_
          refine op_callf rfl (by rfl) 32 [.tmp 54] _ rfl body_rvar [.int .u64 size] rfl (R := fun v w' => v = .string (str (varB size)) ∧ Ext _ w') ((rvar_any size HSZ.out _).mono (by rintro e w' ⟨rfl, u⟩; exact ⟨_, rfl, rfl, u⟩)) ?_
          rintro v w2 ⟨rfl, u⟩
          try replace HBB := Lib.hid (ownsRow_upd HBB.out u (fun _ _ => id))
          replace HE := Lib.hid (HE.out.trans u)
          clear u
          refine any_norm (by go_simp; all_goals exact rfl) ?_
          refine any1 6 (by kernel_rfl) ?_
          have HOLD := Lib.hid (fun (k : Nat) (_ : True) (hk : Value.ownBlock _ = some k) => (HBB.out.lt k hk).1)
          refine op_appStr rfl (by rfl) (.tmp 52) (.tmp 55) 60 9 rfl B0 5 i0 Tryd.underlying60 Tryd.underlying9 hi hz0 hz1 hz2 _ 1 [.int .u8 0] rfl HBB.out (str (varB size)) rfl HV1.out HV2.out (Nat.le_trans HB0.out HE.out.size) ?_
          intro v' w3 ho hg _
          replace HBB := Lib.hid ho
          have HE2 := Lib.hid (HE.out.grown hg (fun k hk => .inl (Nat.le_trans (Nat.le_of_eq HBE.out.symm) (HOLD.out _ trivial hk))))
          clear ho hg
          refine any_norm (by go_simp; all_goals exact rfl) ?_
          refine any1 7 (by kernel_rfl) ?_
          refine op_assign rfl (by rfl) rfl _ rfl ?_
          refine any_norm (by go_simp; all_goals exact rfl) ?_
          refine wpAny_done (by kernel_rfl) ?_ _
          go_wp2_with fail
          go_meet
          exact ⟨PRE.out _ _ HBB.out, HE2.out⟩
        · refine op_load1 rfl (by rfl) rfl ⟨w.heap.size, 1, none⟩ (.int .u64 size) rfl Tryd.underlying23 rfl (by rw [cell_of_blk (Ext.blk HE.out HBX.out)]; rfl) ?_
          refine any_norm (by go_simp; all_goals exact rfl) ?_
          refine any2 2 5 (by kernel_rfl) ?_ ?_
          · refine op_build1 rfl (by rfl) 60 5 _ rfl (.int .u8 0) rfl Tryd.underlying60 i0 (.int .u8 0) hi hz0 hz1 rfl ?_
            have HBB := Lib.hid (own_fresh HE.out HB0.out (.int .u8 0))
            replace HE := Lib.hid (HE.out.alloc (.cells #[.int .u8 0] 5))
            refine any_norm (by go_simp; all_goals exact rfl) ?_
            refine any1 5 (by kernel_rfl) ?_
            refine op_callf rfl (by rfl) 32 [.tmp 54] _ rfl body_rvar [.int .u64 size] rfl (R := fun v w' => v = .string (str (varB size)) ∧ Ext _ w') ((rvar_any size HSZ.out _).mono (by rintro e w' ⟨rfl, u⟩; exact ⟨_, rfl, rfl, u⟩)) ?_
            rintro v w2 ⟨rfl, u⟩
            try replace HBB := Lib.hid (ownsRow_upd HBB.out u (fun _ _ => id))
            replace HE := Lib.hid (HE.out.trans u)
            clear u
            refine any_norm (by go_simp; all_goals exact rfl) ?_
            refine any1 6 (by kernel_rfl) ?_
            have HOLD := Lib.hid (fun (k : Nat) (_ : True) (hk : Value.ownBlock _ = some k) => (HBB.out.lt k hk).1)
            refine op_appStr rfl (by rfl) (.tmp 52) (.tmp 55) 60 9 rfl B0 5 i0 Tryd.underlying60 Tryd.underlying9 hi hz0 hz1 hz2 _ 1 [.int .u8 0] rfl HBB.out (str (varB size)) rfl HV1.out HV2.out (Nat.le_trans HB0.out HE.out.size) ?_
            intro v' w3 ho hg _
            replace HBB := Lib.hid ho
            have HE2 := Lib.hid (HE.out.grown hg (fun k hk => .inl (Nat.le_trans (Nat.le_of_eq HBE.out.symm) (HOLD.out _ trivial hk))))
            clear ho hg
            refine any_norm (by go_simp; all_goals exact rfl) ?_
            refine any1 7 (by kernel_rfl) ?_
            refine op_assign rfl (by rfl) rfl _ rfl ?_
            refine any_norm (by go_simp; all_goals exact rfl) ?_
            refine wpAny_done (by kernel_rfl) ?_ _
            go_wp2_with fail
            go_meet
            exact ⟨PRE.out _ _ HBB.out, HE2.out⟩
          · refine op_callf rfl (by rfl) 32 [.tmp 54] _ rfl body_rvar [.int .u64 size] rfl (R := fun v w' => v = .string (str (varB size)) ∧ Ext _ w') ((rvar_any size HSZ.out _).mono (by rintro e w' ⟨rfl, u⟩; exact ⟨_, rfl, rfl, u⟩)) ?_
            rintro v w2 ⟨rfl, u⟩
            try replace HBB := Lib.hid (ownsRow_upd HBB.out u (fun _ _ => id))
            replace HE := Lib.hid (HE.out.trans u)
            clear u
            refine any_norm (by go_simp; all_goals exact rfl) ?_
            refine any1 2 (by kernel_rfl) ?_
            refine op_build1 rfl (by rfl) 60 5 _ rfl (.int .u8 0) rfl Tryd.underlying60 i0 (.int .u8 0) hi hz0 hz1 rfl ?_
            have HBB := Lib.hid (own_fresh HE.out HB0.out (.int .u8 0))
            replace HE := Lib.hid (HE.out.alloc (.cells #[.int .u8 0] 5))
            refine any_norm (by go_simp; all_goals exact rfl) ?_
            refine any1 6 (by kernel_rfl) ?_
            have HOLD := Lib.hid (fun (k : Nat) (_ : True) (hk : Value.ownBlock _ = some k) => (HBB.out.lt k hk).1)
            refine op_appStr rfl (by rfl) (.tmp 52) (.tmp 55) 60 9 rfl B0 5 i0 Tryd.underlying60 Tryd.underlying9 hi hz0 hz1 hz2 _ 1 [.int .u8 0] rfl HBB.out (str (varB size)) rfl HV1.out HV2.out (Nat.le_trans HB0.out HE.out.size) ?_
            intro v' w3 ho hg _
            replace HBB := Lib.hid ho
            have HE2 := Lib.hid (HE.out.grown hg (fun k hk => .inl (Nat.le_trans (Nat.le_of_eq HBE.out.symm) (HOLD.out _ trivial hk))))
            clear ho hg
            refine any_norm (by go_simp; all_goals exact rfl) ?_
            refine any1 7 (by kernel_rfl) ?_
            refine op_assign rfl (by rfl) rfl _ rfl ?_
            refine any_norm (by go_simp; all_goals exact rfl) ?_
            refine wpAny_done (by kernel_rfl) ?_ _
            go_wp2_with fail
            go_meet
            exact ⟨PRE.out _ _ HBB.out, HE2.out⟩
      · refine op_load1 rfl (by rfl) rfl ⟨w.heap.size, 1, none⟩ (.int .u64 size) rfl Tryd.underlying23 rfl (by rw [cell_of_blk (Ext.blk HE.out HBX.out)]; rfl) ?_
        refine any_norm (by go_simp; all_goals exact rfl) ?_
        refine any2 1 5 (by kernel_rfl) ?_ ?_
        · refine op_load1 rfl (by rfl) rfl ⟨w.heap.size, 0, none⟩ (.int .u8 0) rfl Tryd.underlying22 rfl (by rw [cell_of_blk (Ext.blk HE.out HBX.out)]; rfl) ?_
          refine any_norm (by go_simp; all_goals exact rfl) ?_
          refine any2 2 5 (by kernel_rfl) ?_ ?_
          · refine op_build1 rfl (by rfl) 60 5 _ rfl (.int .u8 0) rfl Tryd.underlying60 i0 (.int .u8 0) hi hz0 hz1 rfl ?_
            have HBB := Lib.hid (own_fresh HE.out HB0.out (.int .u8 0))
            replace HE := Lib.hid (HE.out.alloc (.cells #[.int .u8 0] 5))
            refine any_norm (by go_simp; all_goals exact rfl) ?_
            refine any1 5 (by kernel_rfl) ?_
            refine op_callf rfl (by rfl) 32 [.tmp 54] _ rfl body_rvar [.int .u64 size] rfl (R := fun v w' => v = .string (str (varB size)) ∧ Ext _ w') ((rvar_any size HSZ.out _).mono (by rintro e w' ⟨rfl, u⟩; exact ⟨_, rfl, rfl, u⟩)) ?_
            rintro v w2 ⟨rfl, u⟩
            try replace HBB := Lib.hid (ownsRow_upd HBB.out u (fun _ _ => id))
            replace HE := Lib.hid (HE.out.trans u)
            clear u
            refine any_norm (by go_simp; all_goals exact rfl) ?_
            refine any1 6 (by kernel_rfl) ?_
            have HOLD := Lib.hid (fun (k : Nat) (_ : True) (hk : Value.ownBlock _ = some k) => (HBB.out.lt k hk).1)
            refine op_appStr rfl (by rfl) (.tmp 52) (.tmp 55) 60 9 rfl B0 5 i0 Tryd.underlying60 Tryd.underlying9 hi hz0 hz1 hz2 _ 1 [.int .u8 0] rfl HBB.out (str (varB size)) rfl HV1.out HV2.out (Nat.le_trans HB0.out HE.out.size) ?_
            intro v' w3 ho hg _
            replace HBB := Lib.hid ho
            have HE2 := Lib.hid (HE.out.grown hg (fun k hk => .inl (Nat.le_trans (Nat.le_of_eq HBE.out.symm) (HOLD.out _ trivial hk))))
            clear ho hg
            refine any_norm (by go_simp; all_goals exact rfl) ?_
            refine any1 7 (by kernel_rfl) ?_
            refine op_assign rfl (by rfl) rfl _ rfl ?_
            refine any_norm (by go_simp; all_goals exact rfl) ?_
            refine wpAny_done (by kernel_rfl) ?_ _
            go_wp2_with fail
            go_meet
            exact ⟨PRE.out _ _ HBB.out, HE2.out⟩
          · refine op_callf rfl (by rfl) 32 [.tmp 54] _ rfl body_rvar [.int .u64 size] rfl (R := fun v w' => v = .string (str (varB size)) ∧ Ext _ w') ((rvar_any size HSZ.out _).mono (by rintro e w' ⟨rfl, u⟩; exact ⟨_, rfl, rfl, u⟩)) ?_
            rintro v w2 ⟨rfl, u⟩
            try replace HBB := Lib.hid (ownsRow_upd HBB.out u (fun _ _ => id))
            replace HE := Lib.hid (HE.out.trans u)
            clear u
            refine any_norm (by go_simp; all_goals exact rfl) ?_
            refine any1 2 (by kernel_rfl) ?_
            refine op_build1 rfl (by rfl) 60 5 _ rfl (.int .u8 0) rfl Tryd.underlying60 i0 (.int .u8 0) hi hz0 hz1 rfl ?_
            have HBB := Lib.hid (own_fresh HE.out HB0.out (.int .u8 0))
            replace HE := Lib.hid (HE.out.alloc (.cells #[.int .u8 0] 5))
            refine any_norm (by go_simp; all_goals exact rfl) ?_
            refine any1 6 (by kernel_rfl) ?_
            have HOLD := Lib.hid (fun (k : Nat) (_ : True) (hk : Value.ownBlock _ = some k) => (HBB.out.lt k hk).1)
            refine op_appStr rfl (by rfl) (.tmp 52) (.tmp 55) 60 9 rfl B0 5 i0 Tryd.underlying60 Tryd.underlying9 hi hz0 hz1 hz2 _ 1 [.int .u8 0] rfl HBB.out (str (varB size)) rfl HV1.out HV2.out (Nat.le_trans HB0.out HE.out.size) ?_
            intro v' w3 ho hg _
            replace HBB := Lib.hid ho
            have HE2 := Lib.hid (HE.out.grown hg (fun k hk => .inl (Nat.le_trans (Nat.le_of_eq HBE.out.symm) (HOLD.out _ trivial hk))))
            clear ho hg
            refine any_norm (by go_simp; all_goals exact rfl) ?_
            refine any1 7 (by kernel_rfl) ?_
            refine op_assign rfl (by rfl) rfl _ rfl ?_
            refine any_norm (by go_simp; all_goals exact rfl) ?_
            refine wpAny_done (by kernel_rfl) ?_ _
            go_wp2_with fail
            go_meet
            exact ⟨PRE.out _ _ HBB.out, HE2.out⟩
        · refine op_callf rfl (by rfl) 32 [.tmp 54] _ rfl body_rvar [.int .u64 size] rfl (R := fun v w' => v = .string (str (varB size)) ∧ Ext _ w') ((rvar_any size HSZ.out _).mono (by rintro e w' ⟨rfl, u⟩; exact ⟨_, rfl, rfl, u⟩)) ?_
          rintro v w2 ⟨rfl, u⟩
          try replace HBB := Lib.hid (ownsRow_upd HBB.out u (fun _ _ => id))
          replace HE := Lib.hid (HE.out.trans u)
          clear u
          refine any_norm (by go_simp; all_goals exact rfl) ?_
          refine any1 1 (by kernel_rfl) ?_
          refine op_load1 rfl (by rfl) rfl ⟨w.heap.size, 0, none⟩ (.int .u8 0) rfl Tryd.underlying22 rfl (by rw [cell_of_blk (Ext.blk HE.out HBX.out)]; rfl) ?_
          refine any_norm (by go_simp; all_goals exact rfl) ?_
          refine any1 2 (by kernel_rfl) ?_
          refine op_build1 rfl (by rfl) 60 5 _ rfl (.int .u8 0) rfl Tryd.underlying60 i0 (.int .u8 0) hi hz0 hz1 rfl ?_
          have HBB := Lib.hid (own_fresh HE.out HB0.out (.int .u8 0))
          replace HE := Lib.hid (HE.out.alloc (.cells #[.int .u8 0] 5))
          refine any_norm (by go_simp; all_goals exact rfl) ?_
          refine any1 6 (by kernel_rfl) ?_
          have HOLD := Lib.hid (fun (k : Nat) (_ : True) (hk : Value.ownBlock _ = some k) => (HBB.out.lt k hk).1)
          refine op_appStr rfl (by rfl) (.tmp 52) (.tmp 55) 60 9 rfl B0 5 i0 Tryd.underlying60 Tryd.underlying9 hi hz0 hz1 hz2 _ 1 [.int .u8 0] rfl HBB.out (str (varB size)) rfl HV1.out HV2.out (Nat.le_trans HB0.out HE.out.size) ?_
          intro v' w3 ho hg _
          replace HBB := Lib.hid ho
          have HE2 := Lib.hid (HE.out.grown hg (fun k hk => .inl (Nat.le_trans (Nat.le_of_eq HBE.out.symm) (HOLD.out _ trivial hk))))
          clear ho hg
          refine any_norm (by go_simp; all_goals exact rfl) ?_
          refine any1 7 (by kernel_rfl) ?_
          refine op_assign rfl (by rfl) rfl _ rfl ?_
          refine any_norm (by go_simp; all_goals exact rfl) ?_
          refine wpAny_done (by kernel_rfl) ?_ _
          go_wp2_with fail
          go_meet
          exact ⟨PRE.out _ _ HBB.out, HE2.out⟩
    case rest =>
      obtain ⟨ho1, u1⟩ := hcut
      rename World => W1
      have hvl := varB_len size
      generalize hbs1 : (0 :: varB size : List UInt8) = bs1 at ho1
      have hbl1 : bs1.length = (varB size).length + 1 := by rw [← hbs1]; rfl
      have HBS1 := Lib.hid hbs1
      have HBL1 := Lib.hid hbl1
      have HO1 := Lib.hid ho1
      have HU1 := Lib.hid u1
      have hbW := Ext.blk u1 HB.out
      have c2 := cell_of_blk hbW 2
      simp only [List.size_toArray, List.getElem?_toArray, List.getElem?_cons_zero, List.getElem?_cons_succ] at c2
      have HO1f := own_form ho1
      have CV := rvar_any hs.length (by omega) W1
      have hvl2 := varB_len hs.length
      have HV1 := Lib.hid (show bs1.length + (str (varB hs.length)).size ≤ maxLen ∧ bs1.length + (str (varB hs.length)).size ≤ 140737488355328 by rw [str_size]; unfold maxLen; omega)
      rcases HO1f with ⟨_, hbad⟩ | ⟨g1, cap1, rfl, hg1⟩
      · omega
      clear ho1 u1 hbW hvl hvl2 hbs1 hbl1
      go_wp2_with fail
      refine CV.mono ?_
      rintro e W2 ⟨rfl, u⟩
      have HO2 := Lib.hid (ownsRow_upd HO1.out u (fun _ _ => id))
      have HU2 := Lib.hid (HU1.out.trans u)
      have HS2 := Lib.hid (show B0 ≤ W2.heap.size from Nat.le_trans HB00.out (HU1.out.trans u).size)
      clear u CV
      go_wp2_with (at_builtin; go_must (refine wpList_appStr rfl _ _ 60 9 rfl B0 5 i0 Tryd.underlying60 Tryd.underlying9 hi hz0 hz1 hz2 _ _ _ rfl HO2.out (str (varB hs.length)) rfl HV1.out.1 HV1.out.2 HS2.out ?_))
      intro v3 W3 ho hg _
      have hpre : bs1 ++ varB hs.length = pre3 size hs.length := by rw [← HBS1.out]; unfold pre3; rw [fixB1 0 (by omega)]; rfl
      have ho3 : W3.ownsRow B0 5 1 v3 (pre3 size hs.length).length ((pre3 size hs.length).map u8v) := by
        rw [← hpre, List.length_append, List.map_append]
        rw [strCells_str] at ho
        exact ho
      have HO3 := Lib.hid ho3
      have HU3 := Lib.hid (HU2.out.grown hg (fun k hk => .inl (Nat.le_trans (Nat.le_of_eq HBE.out.symm) (HO2.out.lt k hk).1)))
      clear ho hg ho3 hpre
      go_wp2_with fail
      go_loopw [4, 5] (fun sv iv wr => ∃ (j : Nat) (bs : List UInt8), iv = .int .i64 j ∧ j ≤ hs.length ∧ bs = pre3 size hs.length ++ (hs.take j).flatten ∧ wr.ownsRow B0 5 1 sv bs.length (bs.map u8v) ∧ Ext W0 wr) (fun _ iv _ => hs.length - (RowKit.intOf iv).toNat)
      case atStart => exact ⟨0, _, rfl, Nat.zero_le _, by simp, HO3.out, HU3.out⟩
      case round =>
        obtain ⟨j, bs, rfl, hj, hbs, ho, u⟩ := hrel
        rename World => WR
        have HBS := Lib.hid hbs
        have HO := Lib.hid ho
        have HU := Lib.hid u
        have hform := own_form ho
        have hbR := Ext.blk u HB.out
        have c2 := cell_of_blk hbR 2
        have c3 := cell_of_blk hbR 3
        simp only [List.size_toArray, List.getElem?_toArray, List.getElem?_cons_zero, List.getElem?_cons_succ] at c2 c3
        have hpl := pre3_len size hs.length
        have hfl := flat_take_len hs H3.out j
        have hbl : bs.length = (pre3 size hs.length).length + (hs.take j).flatten.length := by rw [hbs, List.length_append]
        have h9 : 1 ≤ (pre3 size hs.length).length := by unfold pre3; simp only [List.length_append, fixB_len]; omega
        clear ho u hbR hbs
        rcases hform with ⟨_, hbad⟩ | ⟨g5, cap5, rfl, _⟩
        · omega
        by_cases hlt : j < hs.length
        · have hgj := List.getElem?_eq_getElem hlt
          obtain ⟨hh, b, o, rfl, hc⟩ := (HXS.out.later HU.out) j _ hgj
          have HFT := Lib.hid (flat_take hs j _ hgj)
          have hlti : (j : Int) < hs.length := by omega
          generalize hs[j] = t at *
          have HSZ2 := Lib.hid (hash_size32 t hh)
          have HC := Lib.hid (fun (i : Nat) (u : Value) (hu : (t.map u8v)[i]? = some u) => show WR.cell? ⟨b, o + j * 32 + i, none⟩ = some u by rw [Nat.add_assoc]; exact hc i u hu)
          have CH := rhash_any t hh WR
          have HV := Lib.hid (show bs.length + (str t).size ≤ maxLen ∧ bs.length + (str t).size ≤ 140737488355328 by rw [str_size, hh]; unfold maxLen; omega)
          clear hc hgj hpl hfl hbl h9
          go_wp2_with (refine wpList_loadAgg rfl 70 _ rfl b (o + j * 32) rfl (t.map u8v) Tryd.underlying70 rfl HSZ2.out HC.out ?_)
          refine CH.mono ?_
          rintro e W5 ⟨rfl, u⟩
          have HO5 := Lib.hid (ownsRow_upd HO.out u (fun _ _ => id))
          have HU5 := Lib.hid (HU.out.trans u)
          have HS5 := Lib.hid (show B0 ≤ W5.heap.size from Nat.le_trans HB00.out (HU.out.trans u).size)
          clear u CH
          go_wp2_with (at_builtin; go_must (refine wpList_appStr rfl _ _ 60 9 rfl B0 5 i0 Tryd.underlying60 Tryd.underlying9 hi hz0 hz1 hz2 _ _ _ rfl HO5.out (str t) rfl HV.out.1 HV.out.2 HS5.out ?_))
          intro v6 W6 ho hg _
          have ho6 : W6.ownsRow B0 5 1 v6 (pre3 size hs.length ++ (hs.take (j + 1)).flatten).length ((pre3 size hs.length ++ (hs.take (j + 1)).flatten).map u8v) := by
            rw [HFT.out, ← List.append_assoc, ← HBS.out, List.length_append, List.map_append, hh]
            rw [strCells_str] at ho
            exact ho
          have HO6 := Lib.hid ho6
          have HU6 := Lib.hid (HU5.out.grown hg (fun k hk => .inl (Nat.le_trans (Nat.le_of_eq HBE.out.symm) (HO5.out.lt k hk).1)))
          clear ho hg ho6
          go_wp2_with fail
          exact ⟨⟨j + 1, _, by simp, by omega, rfl, HO6.out, HU6.out⟩, by simp [RowKit.intOf]; omega⟩
        · obtain rfl : j = hs.length := by omega
          have CT := rtext_any leaf (by omega) WR
          have hll : leaf.data.toList.length = leaf.size := by rw [Array.length_toList]; rfl
          have hvl := varB_len leaf.size
          rw [List.take_length] at hfl
          have HV := Lib.hid (show bs.length + (str (varB leaf.size ++ leaf.data.toList)).size ≤ maxLen ∧ bs.length + (str (varB leaf.size ++ leaf.data.toList)).size ≤ 140737488355328 by rw [List.take_length] at hbl; rw [str_size, List.length_append, hll]; unfold maxLen; omega)
          clear hpl hfl hll hvl hbl h9
          go_wp2_with fail
          refine CT.mono ?_
          rintro e W5 ⟨rfl, u⟩
          have HO5 := Lib.hid (ownsRow_upd HO.out u (fun _ _ => id))
          have HU5 := Lib.hid (HU.out.trans u)
          have HS5 := Lib.hid (show B0 ≤ W5.heap.size from Nat.le_trans HB00.out (HU.out.trans u).size)
          clear u CT
          go_wp2_with (at_builtin; go_must (refine wpList_appStr rfl _ _ 60 9 rfl B0 5 i0 Tryd.underlying60 Tryd.underlying9 hi hz0 hz1 hz2 _ _ _ rfl HO5.out (str (varB leaf.size ++ leaf.data.toList)) rfl HV.out.1 HV.out.2 HS5.out ?_))
          intro v6 W6 ho hg _
          have ho6 : W6.ownsRow B0 5 1 v6 (AnsD.mk 0 size hs leaf).body.length ((AnsD.mk 0 size hs leaf).body.map u8v) := by
            have eb : (AnsD.mk 0 size hs leaf).body = pre3 size hs.length ++ (hs.take hs.length).flatten ++ (varB leaf.size ++ leaf.data.toList) := by rw [List.take_length]; rfl
            rw [eb, ← HBS.out, List.length_append, List.map_append]
            rw [strCells_str] at ho
            have hll2 : leaf.size = leaf.data.toList.length := by rw [Array.length_toList]; rfl
            rw [hll2] at ho ⊢
            simp only [List.length_append] at ho ⊢
            exact ho
          have HU6 := Lib.hid (HU5.out.grown hg (fun k hk => .inl (Nat.le_trans (Nat.le_of_eq HBE.out.symm) (HO5.out.lt k hk).1)))
          clear ho hg
          generalize hbd : (AnsD.mk 0 size hs leaf).body = bd at ho6
          have HBD := Lib.hid hbd
          clear hbd
          have hst := run_str_own W6 ho6
          have hfm := own_form ho6
          have HZ6 := Lib.hid (Ext.blk HU6.out HZ.out)
          have HXW : Hid (Ext w W6) := Lib.hid (HX.out.trans HU6.out)
          clear ho6
          by_cases hw : 1048576 < bd.length
          · have e1 : wholeB bd = [] := if_pos hw
            have e2 : wholeE bd = some (4, none) := if_pos hw
            have HEE := Lib.hid (And.intro e1 e2)
            have dw : (1048576 : Int) < bd.length := by omega
            clear e1 e2 hw hst
            rcases hfm with ⟨_, hbad⟩ | ⟨g7, cap7, rfl, _⟩
            · omega
            go_wp2_with fail
            refine (CP _).mono ?_
            rintro e W7 ⟨rfl, u⟩
            have HZ1 := Lib.hid (Ext.blk u HZ6.out)
            have hF := Lib.hid (blk_setRow HZ1.out #[.int .i64 4, .int .i64 (-1)])
            have HUF := Lib.hid ((HXW.out.trans u).setRow (g := w.heap.size + 1) (.inl (by omega)) #[.int .i64 4, .int .i64 (-1)])
            clear u CP
            go_wp2_with (refine store_whole rfl 34 _ _ rfl (w.heap.size + 1) rfl [.int .i64 4, .int .i64 (-1)] rfl fault_size2 [.int .i64 0, .int .i64 0] 34 HZ1.out rfl (fault_one _ _) ?_)
            exact bodyPost_ret (v := .tuple #[.string ⟨#[]⟩, .agg #[.int .i64 4, .int .i64 (-1)]]) (resR _ _ (w.heap.size + 1) _ _ rfl rfl hF.out rfl) rfl ⟨by rw [HBD.out, HEE.out.1, HEE.out.2]; rfl, HUF.out⟩
          · have e1 : wholeB bd = bd := if_neg hw
            have e2 : wholeE bd = none := if_neg hw
            have HEE := Lib.hid (And.intro e1 e2)
            have dw : ¬ (1048576 : Int) < bd.length := by omega
            have hF := Lib.hid (blk_setRow HZ6.out #[.int .i64 0, .int .i64 0])
            have HUF := Lib.hid (HXW.out.setRow (g := w.heap.size + 1) (.inl (by omega)) #[.int .i64 0, .int .i64 0])
            clear e1 e2 hw
            rcases hfm with ⟨rfl, _⟩ | ⟨g7, cap7, rfl, _⟩
            all_goals
              go_wp2_with (refine store_whole rfl 34 _ _ rfl (w.heap.size + 1) rfl [.int .i64 0, .int .i64 0] rfl fault_size2 [.int .i64 0, .int .i64 0] 34 HZ6.out rfl (fault_one _ _) ?_)
              exact bodyPost_ret (v := .tuple #[.string (str bd), .agg #[.int .i64 0, .int .i64 0]]) (resR _ _ (w.heap.size + 1) _ _ rfl rfl hF.out rfl) rfl ⟨by rw [HBD.out, HEE.out.1, HEE.out.2]; rfl, HUF.out⟩
end Go.Proofs.YtkdhjighomnooaaDoor
