/- Things and hashes compared with themselves. -/
import Derived.Test.YtljnhelnmnomoaaGreatDoorArgs
import Derived.DeepKeys
import Derived.Laws.StructEq
namespace Go.Proofs.YtljnhelnmnomoaaGreatDoor
open Go.ChangeShapes Go.WideShapes Go.ChangeAt Go.RowKit Go.Lib Go.Deep

theorem mapM_is {α β : Type} {f : α → Option β} : ∀ (l : List α), (∀ x ∈ l, ∃ y, f x = some y) → ∃ ys, l.mapM f = some ys
  | [], _ => ⟨[], rfl⟩
  | x :: l, h => by
    obtain ⟨y, hy⟩ := h x (by simp)
    obtain ⟨ys, hys⟩ := mapM_is l (fun a ha => h a (by simp [ha]))
    exact ⟨y :: ys, by simp [List.mapM_cons, hy, hys]⟩
theorem u8_wf (b : UInt8) : (Lit.int .u8 (b.toNat : Int)).wf = true := by
  have := b.toNat_lt
  simp [Lit.wf, IntKind.min, IntKind.max, IntKind.signed, IntKind.bits]
  omega
theorem i64_wf {n : Int} (h1 : -9223372036854775808 ≤ n) (h2 : n ≤ 9223372036854775807) : (Lit.int .i64 n).wf = true := by
  simp [Lit.wf, IntKind.min, IntKind.max, IntKind.signed, IntKind.bits]
  omega
theorem u64_wf {n : Nat} (h : n < 18446744073709551616) : (Lit.int .u64 (n : Int)).wf = true := by
  simp [Lit.wf, IntKind.min, IntKind.max, IntKind.signed, IntKind.bits]
  omega
theorem hash_lits (d : Nat) (hs : List UInt8) (h : hs.length = 32) : ∃ ls, Tryz.prog.keyLits (d + 2) 120 (hs.map u8v) = some ls := by
  unfold Program.keyLits
  rw [Tryz.underlying120]
  simp only [List.length_map, h, cells_hash, if_true]
  obtain ⟨ys, hy⟩ := mapM_is (f := fun i => Tryz.prog.keyLits (d + 1) 5 (((hs.map u8v).drop (i * Tryz.prog.cellsOf 5)).take (Tryz.prog.cellsOf 5))) (List.range 32) (fun i hi => by
    have hi := List.mem_range.1 hi
    rw [cells_u8, Nat.mul_one, List.drop_eq_getElem_cons (by simpa using (by omega : i < hs.length))]
    unfold Program.keyLits
    rw [Tryz.underlying5]
    simp [u8_wf])
  exact ⟨ys.flatten, by rw [hy]; rfl⟩
theorem int_lits (d : Nat) {n : Int} (h1 : -9223372036854775808 ≤ n) (h2 : n ≤ 9223372036854775807) : Tryz.prog.keyLits (d + 1) 3 [.int .i64 n] = some [.int .i64 n] := by
  unfold Program.keyLits
  rw [Tryz.underlying3]
  simp [i64_wf h1 h2]
theorem u64_lits (d : Nat) {n : Nat} (h : n < 18446744073709551616) : Tryz.prog.keyLits (d + 1) 24 [.int .u64 n] = some [.int .u64 n] := by
  unfold Program.keyLits
  rw [Tryz.underlying24]
  simp [u64_wf h]
theorem str_lits (d : Nat) {s : ByteArray} (h : s.size ≤ 9223372036854775807) : Tryz.prog.keyLits (d + 1) 9 [.string s] = some [.string s.data.toList] := by
  unfold Program.keyLits
  rw [Tryz.underlying9]
  simp [show s.size ≤ maxLen from h]
theorem guard_hash : Tryz.prog.eqGuardType Tryz.prog.depth 120 = false := by kernel_rfl
theorem key_hash : Tryz.prog.keyTypeAt 5 120 = true := by kernel_rfl
theorem hash_same (hs : List UInt8) (hh : hs.length = 32) (w : World) : (Op.equalIn 10000 120 (.agg (hs.map u8v).toArray) (.agg (hs.map u8v).toArray)).run Tryz.prog w = .ok true w := by
  obtain ⟨ls, hl⟩ := hash_lits 0 hs hh
  have hf : Value.formed Tryz.prog 120 (.agg (hs.map u8v).toArray) = true := by
    unfold Value.formed
    rw [Tryz.underlying120, cells_hash]
    simp [hh]
  obtain ⟨r, h1, h2⟩ := run_equalIn_deep (P := Tryz.prog) 9995 5 120 key_hash w 2 2 _ _ ls ls hf hf (by simpa [Value.cells] using hl) (by simpa [Value.cells] using hl)
  rw [h2.2 rfl] at h1
  exact h1
section
variable {P : Program} {w : World}
/-- A comparison of structs or arrays that are the same, in a list of operations. -/
theorem wpList_neqAgg {ops : Array Oper} {rest : List Oper} {o : Oper} {a : Act} {Q : Exit → Act → World → Prop} (hgd : o.guard = none) (ty tr : TypeId) (x y : Operand) (ho : o.op = .binOp .neq ty x y tr)
    (cs ds : Array Value) (hx : a.eval x = .agg cs) (hy : a.eval y = .agg ds) (hm : P.eqGuardType P.depth ty = false) (h : (Op.equalIn 10000 ty (.agg cs) (.agg ds)).run P w = .ok true w)
    (hk : wpList P ops Q rest (a.put o.dst (.bool false)) w) : wpList P ops Q (o :: rest) a w := by
  refine wpList_plain hgd fun _ hK => ?_
  unfold Oper.wp execOp
  simp only [ho, hx, hy, Sem.run_bind, run_eqGuard_agg w _ _ _ _ _ _ hm, run_neq_struct, h, Result.andThen_ok, Sem.run_pure]
  exact hK _ _ hk
theorem wpList_eqlAgg {ops : Array Oper} {rest : List Oper} {o : Oper} {a : Act} {Q : Exit → Act → World → Prop} (hgd : o.guard = none) (ty tr : TypeId) (x y : Operand) (ho : o.op = .binOp .eql ty x y tr)
    (cs ds : Array Value) (hx : a.eval x = .agg cs) (hy : a.eval y = .agg ds) (hm : P.eqGuardType P.depth ty = false) (h : (Op.equalIn 10000 ty (.agg cs) (.agg ds)).run P w = .ok true w)
    (hk : wpList P ops Q rest (a.put o.dst (.bool true)) w) : wpList P ops Q (o :: rest) a w := by
  refine wpList_plain hgd fun _ hK => ?_
  unfold Oper.wp execOp
  simp only [ho, hx, hy, Sem.run_bind, run_eqGuard_agg w _ _ _ _ _ _ hm, run_eql_struct, h, Result.andThen_ok, Sem.run_pure]
  exact hK _ _ hk
end
end Go.Proofs.YtljnhelnmnomoaaGreatDoor
