/- What DecodeQuery holds when a leaf is appended; the steps that region 24 wants. -/
import Derived.Test.YtdkhnkhflbefbaaGreatDoorStep
import Derived.Test.YtdkhnkhflbefbaaGreatDoorBuildOne
import Derived.Deep.CutRange
namespace Go.Proofs.YtdkhnkhflbefbaaGreatDoor
open Go.RowKit Go.Lib

section
variable {P : Program} {ops : Array Oper} {Q : Exit → Act → World → Prop} {a : Act} {w : World} {i : Nat} {o : Oper} {K : Act → World → Prop}
theorem any_normQ {md : Region.Mode} {n : Nat} {listed : Array Bool} {a' : Act} (h : a = a') (hk : wpAny P md ops Q n listed a' w) : wpAny P md ops Q n listed a w := h ▸ hk
theorem op_assignQ (hi : ops[i]? = some o) (hw : Region.wanted o (yielded ops a.tmps) = true) {x : Operand} (ho : o.op = .assign x) (v : Value) (hv : a.eval x = v) (h : K (a.put o.dst v) w) : wpOp P ops Q i K a w := by
  subst hv
  exact op_val hi hw (by simp [execOp, ho]) h
theorem op_build1Q (hi : ops[i]? = some o) (hw : Region.wanted o (yielded ops a.tmps) = true) (t e : TypeId) (y : Operand) (ho : o.op = .buildSlice t 1 #[(0, y)]) (v : Value) (hy : a.eval y = v) (hu : P.underlying t = some (.slice e))
    (ie : TypeInfo) (z : Value) (hie : P.info? e = some ie) (hz : ie.zero = some z) (hs : ie.size = 1) (hv : v.cells = #[v]) (h : K (a.put o.dst (.slice (some ⟨w.heap.size, 0, none⟩) 1 1)) (w.alloc (.cells #[v] e))) : wpOp P ops Q i K a w := by
  refine op_val hi hw ?_ h
  have hr := run_buildSlice (P := P) w t e 1 #[(0, v)] #[v] ie z hu hie hz (by rw [hs]; omega) (by rw [hs]; omega) (by
    simp only [Instr.fill, hs, Nat.zero_mul, Nat.one_mul, hv]
    rw [if_neg (by simp)]
    have := fold_all [v] ((Array.range 1).map (z.cells[· % z.cells.size]!)) (by simp)
    simpa using this)
  simp only [execOp, ho, List.map_toArray, List.map_cons, List.map_nil, hy, Sem.run_bind, hr, Result.andThen_ok]
  rfl
theorem op_store1 (hi : ops[i]? = some o) (hw : Region.wanted o (yielded ops a.tmps) = true) (ty : TypeId) (x y : Operand) (ho : o.op = .store ty x y)
    (p : Addr) (hx : a.eval x = .pointer (some p)) (v : Value) (hy : a.eval y = v) (hcs : v.cells = #[v]) (h1 : v.oneCell' = true) (hs : (P.info? ty).map (·.size) = some 1)
    (c : Value) (hc : w.cell? p = some c) (hf : w.frozen? p = false) (h : K (a.put o.dst undef) (w.setCell p v)) : wpOp P ops Q i K a w := by
  unfold wpOp
  simp only [hi]
  rw [if_pos hw]
  left
  cases hq : P.info? ty with
  | none => simp [hq] at hs
  | some it =>
    have hss : it.size = 1 := by simpa [hq] using hs
    have h0 : p.add 0 = p := by cases p; unfold Addr.add; split <;> simp_all
    have hst : (storeCells p [v] 0).run P w = .ok () (w.setCell p v) := by
      simp only [storeCells, Sem.run_bind, h0]
      rw [run_store P w p v .plain h1, hc]
      simp [hf]
    unfold Oper.wp execOp
    simp [ho, hx, hy, Instr.storeAt, Instr.sureAddr, storeVar, sizeOf, typeInfo, hq, hss, hcs, hst]
    exact h
theorem op_app1 (hgi : ops[i]? = some o) (hw : Region.wanted o (yielded ops a.tmps) = true) (s x : Operand) (t : TypeId)
    (ho : o.op = .call { callee := .builtin .append, args := #[s, x], argTypes := #[t, t] })
    (base : Nat) (e : TypeId) (it : TypeInfo) (z : Value) (size bytes : Nat) (ht : P.underlying t = some (.slice e)) (hi : P.info? e = some it) (hz : it.zero = some z)
    (hsize : it.size = size) (hby : it.bytes = bytes) (hzs : z.cells.size = size) (hsz : 0 < size)
    (v : Value) (n : Nat) (xs : List Value) (hs : a.eval s = v) (hown : w.ownsRow base e size v n xs)
    (ad : Addr) (m c : Nat) (news : List Value) (hx : a.eval x = .slice (some ad) m c) (hl : news.length = m * size) (hnews : ∀ j u, news[j]? = some u → w.cell? (ad.add j) = some u) (h1 : ∀ u ∈ news, u.oneCell' = true)
    (h63 : n + m ≤ maxLen) (hbytes : (n + m) * bytes ≤ 140737488355328) (hbase : base ≤ w.heap.size)
    (h : ∀ v' w', w'.ownsRow base e size v' (n + m) (xs ++ news) → w.grownBy w' v.ownBlock → (v'.ownBlock = v.ownBlock ∨ v'.ownBlock = some w.heap.size) → K (a.put o.dst v') w') : wpOp P ops Q i K a w := by
  obtain ⟨v', w', hr, h2, h3, _⟩ := run_append_own (P := P) w base t o.type e it z size bytes ht hi hz hsize hby hzs hsz v n xs hown ad m c news hl hnews h1 h63 hbytes hbase
  subst hsize
  subst hby
  have h4 := append_block w base t o.type e it z ht hi hz v n xs hown ad m c news hl hnews h1 h63 hbytes v' w' hr
  refine op_val hgi hw ?_ (h v' w' h2 h3 h4)
  unfold execOp
  simp only [ho, resolve, invoke, builtin, Sem.run_bind, Sem.run_pure, Result.andThen_ok, List.map_toArray, List.map_cons, List.map_nil, hs, hx, hr]
end
section
end
theorem info_string : (Tryz.prog.info? 9).map (fun i => (i.zero, i.size, i.bytes)) = some (some (.string ⟨#[]⟩), 1, 16) := by kernel_rfl
theorem own_cells {w : World} {B e size n : Nat} {v : Value} {xs : List Value} (h : w.ownsRow B e size v n xs) : v.cells = #[v] := by
  rcases h.2 with ⟨rfl, _⟩ | ⟨g, cap, cur, rfl, _⟩ <;> rfl
theorem size_strs : (Tryz.prog.info? 86).map (·.size) = some 1 := by kernel_rfl
end Go.Proofs.YtdkhnkhflbefbaaGreatDoor
