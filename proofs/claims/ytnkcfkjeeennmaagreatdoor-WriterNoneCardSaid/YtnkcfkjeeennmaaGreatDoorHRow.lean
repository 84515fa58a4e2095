/- Rows of hashes: plain lemmas on memory. Words of SHA-256 in the walk's own forms; turn. Laws for one step of a region that draws its order: a call of a function by its contract, a copy of a string into an array of the call's own. Nothing of the program. -/
import Derived.Test.YtnkcfkjeeennmaaGreatDoorCode
import Derived.Test.YtnkcfkjeeennmaaGreatDoorTree
import Derived.Test.YtnkcfkjeeennmaaGreatDoorBase
import Derived.BigQuiet
import Derived.Deep.RegionLaw
namespace Go.Proofs.YtnkcfkjeeennmaaGreatDoor
open Go.RowKit Go.Lib


def hcells (l : List HB) : List Value := (l.map (fun h => h.map u8v)).flatten
def H32 (l : List HB) : Prop := ∀ h ∈ l, h.length = 32
theorem H32.nil : H32 [] := fun h hh => by cases hh
theorem H32.cons {h : HB} {l : List HB} (h1 : h.length = 32) (h2 : H32 l) : H32 (h :: l) := fun x hx => by
  rcases List.mem_cons.1 hx with rfl | hx
  · exact h1
  · exact h2 x hx
theorem H32.app {a b : List HB} (h1 : H32 a) (h2 : H32 b) : H32 (a ++ b) := fun x hx => (List.mem_append.1 hx).elim (h1 x) (h2 x)
theorem H32.take {l : List HB} (h : H32 l) (k : Nat) : H32 (l.take k) := fun x hx => h x (List.mem_of_mem_take hx)
theorem H32.drop {l : List HB} (h : H32 l) (k : Nat) : H32 (l.drop k) := fun x hx => h x (List.mem_of_mem_drop hx)
theorem H32.get {l : List HB} (h : H32 l) (i : Nat) (hi : i < l.length) : (l[i]).length = 32 := h _ (List.getElem_mem hi)
theorem H32.getD {l : List HB} (h : H32 l) (i : Nat) (hi : i < l.length) : (l.getD i []).length = 32 := by
  rw [List.getD_eq_getElem?_getD, List.getElem?_eq_getElem hi]; exact h.get i hi
theorem H32.set {l : List HB} (h : H32 l) (i : Nat) {x : HB} (hx : x.length = 32) : H32 (l.set i x) := fun y hy => by
  rcases List.mem_or_eq_of_mem_set hy with h1 | h1
  · exact h y h1
  · rw [h1]; exact hx
theorem hcells_nil : hcells [] = [] := rfl
theorem hcells_cons (h : HB) (l : List HB) : hcells (h :: l) = h.map u8v ++ hcells l := by simp [hcells]
theorem hcells_app (a b : List HB) : hcells (a ++ b) = hcells a ++ hcells b := by simp [hcells]
theorem hcells_one (h : HB) : hcells [h] = h.map u8v := by simp [hcells]
theorem hcells_len {l : List HB} (h : H32 l) : (hcells l).length = l.length * 32 := by
  induction l with
  | nil => rfl
  | cons x l ih =>
    rw [hcells_cons, List.length_append, List.length_map, h x (by simp), ih (fun y hy => h y (by simp [hy])), List.length_cons]
    omega
theorem hcells_ones (l : List HB) : ∀ u ∈ hcells l, u.oneCell' = true := fun u hu => by
  obtain ⟨r, hr, hu⟩ := List.mem_flatten.1 hu
  obtain ⟨h, _, rfl⟩ := List.mem_map.1 hr
  exact u8_ones h u hu
theorem hcells_drop : ∀ (k : Nat) {l : List HB}, H32 l → hcells (l.drop k) = (hcells l).drop (k * 32) := by
  intro k
  induction k with
  | zero => intro l _; simp
  | succ k ih =>
    intro l h
    cases l with
    | nil => simp [hcells]
    | cons x l =>
      have hl : (x.map u8v).length = 32 := by rw [List.length_map, h x (by simp)]
      rw [List.drop_succ_cons, ih (fun y hy => h y (by simp [hy])), hcells_cons, show (k + 1) * 32 = 32 + k * 32 by omega, List.drop_append, List.drop_of_length_le (l := x.map u8v) (by rw [hl]; omega), List.nil_append, hl]
      congr 1
      omega
theorem hcells_take : ∀ (k : Nat) {l : List HB}, H32 l → hcells (l.take k) = (hcells l).take (k * 32) := by
  intro k
  induction k with
  | zero => intro l _; simp [hcells]
  | succ k ih =>
    intro l h
    cases l with
    | nil => simp [hcells]
    | cons x l =>
      have hl : (x.map u8v).length = 32 := by rw [List.length_map, h x (by simp)]
      rw [List.take_succ_cons, hcells_cons, ih (fun y hy => h y (by simp [hy])), hcells_cons, show (k + 1) * 32 = 32 + k * 32 by omega, List.take_append, List.take_of_length_le (l := x.map u8v) (by rw [hl]; omega), hl, show 32 + k * 32 - 32 = k * 32 by omega]
theorem hcells_get {l : List HB} (h : H32 l) (i : Nat) (hi : i < l.length) (j : Nat) (v : Value) (hv : ((l.getD i []).map u8v)[j]? = some v) : (hcells l)[i * 32 + j]? = some v := by
  have e : l.drop i = l.getD i [] :: l.drop (i + 1) := by
    rw [List.getD_eq_getElem?_getD, List.getElem?_eq_getElem hi]; exact List.drop_eq_getElem_cons hi
  have e2 : (hcells l)[i * 32 + j]? = ((hcells l).drop (i * 32))[j]? := by rw [List.getElem?_drop]
  have hj : j < ((l.getD i []).map u8v).length := (List.getElem?_eq_some_iff.1 hv).1
  rw [e2, ← hcells_drop i h, e, hcells_cons, List.getElem?_append_left hj]
  exact hv
theorem hcells_set {l : List HB} (h : H32 l) (i : Nat) (hi : i < l.length) (x : HB) : hcells (l.set i x) = (hcells l).take (i * 32) ++ (x.map u8v ++ (hcells l).drop (i * 32 + 32)) := by
  rw [← hcells_take i h, show i * 32 + 32 = (i + 1) * 32 by omega, ← hcells_drop (i + 1) h, ← hcells_cons, ← hcells_app]
  congr 1
  rw [List.set_eq_take_append_cons_drop, if_pos hi]
/-- The i-th hash of a slice. -/
theorem hash_at {w : World} {g o : Nat} {l : List HB} (hA : CellsAt w (some ⟨g, o, none⟩) (hcells l)) (h : H32 l) (i : Nat) (hi : i < l.length) : ∀ j v, ((l.getD i []).map u8v)[j]? = some v → w.cell? ⟨g, o + i * 32 + j, none⟩ = some v := fun j v hv => by
  have := hA.cell (hcells_get h i hi j v hv)
  rw [Nat.add_assoc]; exact this
theorem CellsAt.row32 {w : World} {B e n g c size : Nat} {xs : List Value} (h : w.ownsRow B e size (.slice (some ⟨g, 0, none⟩) n c) n xs) : CellsAt w (some ⟨g, 0, none⟩) xs := fun j v hv => ⟨_, rfl, h.cells (g := g) rfl j v hv⟩
theorem CellsAt.own32 {w : World} {B e n size : Nat} {A : Option Addr} {c : Nat} {xs : List Value} (h : w.ownsRow B e size (.slice A n c) n xs) : CellsAt w A xs := by
  rcases own_form h with ⟨hv, h0⟩ | ⟨g, cap, hv, _⟩
  · have : xs = [] := List.length_eq_zero_iff.1 (by rw [h.1, h0]; simp)
    subst this
    exact CellsAt.nil _ _
  · simp only [Value.slice.injEq, true_and] at hv
    obtain ⟨rfl, rfl⟩ := hv
    exact CellsAt.row32 h
/-- A struct stored into an own row. -/
theorem row_store {w : World} {B e size n g : Nat} {v : Value} {xs : List Value} (h : w.ownsRow B e size v n xs) (hg : v.ownBlock = some g) :
    ∃ cur : List Value, w.heap[g]? = some (.cells cur.toArray e (0, 0)) ∧ n * size ≤ cur.length ∧ ∀ (off : Nat) (vs : List Value), off + vs.length ≤ n * size → (w.setRow g (over cur off vs).toArray).ownsRow B e size v n (xs.take off ++ (vs ++ xs.drop (off + vs.length))) := by
  rcases h.2 with ⟨rfl, _⟩ | ⟨g', cap, cur, rfl, hb, hgg, hnc, hcm, hcs, ht⟩
  · cases hg
  · obtain rfl : g' = g := by simpa [Value.ownBlock] using hg
    have hlen : n * size ≤ cur.toList.length := by rw [Array.length_toList, hcs]; exact Nat.mul_le_mul_right _ hnc
    refine ⟨cur.toList, by simpa using hgg, hlen, fun off vs hfit => ?_⟩
    have hxl := h.1
    refine ⟨?_, .inr ⟨g', cap, _, rfl, hb, setRow_heap w g' cur _ e _ hgg, hnc, hcm, ?_, ?_⟩⟩
    · simp only [List.length_append, List.length_take, List.length_drop]; omega
    · simp only [over, List.size_toArray, List.length_append, List.length_take, List.length_drop, Array.length_toList]
      rw [Array.length_toList] at hlen
      omega
    · simp only [over]
      rw [← ht]
      have hA : (cur.toList.take off).length = off := by rw [List.length_take]; omega
      rw [List.take_append, hA, List.take_of_length_le (l := cur.toList.take off) (by rw [hA]; omega), List.take_append, List.take_of_length_le (l := vs) (by omega), List.take_take, List.drop_take, Nat.min_eq_left (by omega)]
      congr 3
      omega
theorem row_cutE {w : World} {B e size n m : Nat} {A : Option Addr} {c : Nat} {xs : List Value} (h : w.ownsRow B e size (.slice A n c) n xs) (hm : m ≤ n) : w.ownsRow B e size (.slice A m c) m (xs.take (m * size)) := by
  have hl := h.1
  have hms : m * size ≤ n * size := Nat.mul_le_mul_right _ hm
  refine ⟨by rw [List.length_take]; omega, ?_⟩
  rcases h.2 with ⟨hv, h0⟩ | ⟨g, cap, cur, hv, hb, hg, hnc, hcm, hcs, ht⟩
  · simp only [Value.slice.injEq] at hv
    obtain ⟨rfl, h1, rfl⟩ := hv
    left
    exact ⟨by simp; omega, by omega⟩
  · simp only [Value.slice.injEq, true_and] at hv
    obtain ⟨rfl, rfl⟩ := hv
    right
    refine ⟨g, c, cur, rfl, hb, hg, by omega, hcm, hcs, ?_⟩
    rw [← ht, List.take_take]
    congr 1
    omega

def turnI (x : Int) (n : Nat) : Int := bits .or .u32 (x / 2 ^ n) (x * 2 ^ (32 - n) % 4294967296)
theorem turn_any (w : World) (x : Int) (n : Nat) (hn : n ≤ 32) :
    Calls Tryz.prog 204 #[.int .u32 x, .int .i64 n] w fun e w' => e = .returned (.int .u32 (turnI x n)) ∧ ∃ m, w' = w.drewN m := by
  have h0 : (0 : Int) ≤ n := by omega
  have h1 : (n : Int) ≤ 32 := by omega
  have h2 : (0 : Int) ≤ 32 - n := by omega
  have h3 : (32 : Int) - n ≤ 32 := by omega
  have h4 : ((32 : Int) - n).toNat = 32 - n := by omega
  go_enter Tryz.func204, Tryz.ntmps204
  go_wp2_with fail
  go_quiet (fail)
  go_wp2_with fail
  go_ret
  exact ⟨rfl, _, rfl⟩
theorem turn_at (w : World) (x : Int) (n : Nat) (hn : n ≤ 32) (k : Nat) :
    Calls Tryz.prog 204 #[.int .u32 x, .int .i64 n] (w.drewN k) fun e w' => e = .returned (.int .u32 (turnI x n)) ∧ ∃ m, w' = w.drewN m := Calls.quiet_of (turn_any _ x n hn)
theorem turn7 (w : World) (x : Int) (k : Nat) : Calls Tryz.prog 204 #[.int .u32 x, .int .i64 7] (w.drewN k) fun e w' => e = .returned (.int .u32 (turnI x 7)) ∧ ∃ m, w' = w.drewN m := turn_at w x 7 (by omega) k
theorem turn18 (w : World) (x : Int) (k : Nat) : Calls Tryz.prog 204 #[.int .u32 x, .int .i64 18] (w.drewN k) fun e w' => e = .returned (.int .u32 (turnI x 18)) ∧ ∃ m, w' = w.drewN m := turn_at w x 18 (by omega) k
theorem turn17 (w : World) (x : Int) (k : Nat) : Calls Tryz.prog 204 #[.int .u32 x, .int .i64 17] (w.drewN k) fun e w' => e = .returned (.int .u32 (turnI x 17)) ∧ ∃ m, w' = w.drewN m := turn_at w x 17 (by omega) k
theorem turn19 (w : World) (x : Int) (k : Nat) : Calls Tryz.prog 204 #[.int .u32 x, .int .i64 19] (w.drewN k) fun e w' => e = .returned (.int .u32 (turnI x 19)) ∧ ∃ m, w' = w.drewN m := turn_at w x 19 (by omega) k
theorem turn6 (w : World) (x : Int) (k : Nat) : Calls Tryz.prog 204 #[.int .u32 x, .int .i64 6] (w.drewN k) fun e w' => e = .returned (.int .u32 (turnI x 6)) ∧ ∃ m, w' = w.drewN m := turn_at w x 6 (by omega) k
theorem turn11 (w : World) (x : Int) (k : Nat) : Calls Tryz.prog 204 #[.int .u32 x, .int .i64 11] (w.drewN k) fun e w' => e = .returned (.int .u32 (turnI x 11)) ∧ ∃ m, w' = w.drewN m := turn_at w x 11 (by omega) k
theorem turn25 (w : World) (x : Int) (k : Nat) : Calls Tryz.prog 204 #[.int .u32 x, .int .i64 25] (w.drewN k) fun e w' => e = .returned (.int .u32 (turnI x 25)) ∧ ∃ m, w' = w.drewN m := turn_at w x 25 (by omega) k
theorem turn2 (w : World) (x : Int) (k : Nat) : Calls Tryz.prog 204 #[.int .u32 x, .int .i64 2] (w.drewN k) fun e w' => e = .returned (.int .u32 (turnI x 2)) ∧ ∃ m, w' = w.drewN m := turn_at w x 2 (by omega) k
theorem turn13 (w : World) (x : Int) (k : Nat) : Calls Tryz.prog 204 #[.int .u32 x, .int .i64 13] (w.drewN k) fun e w' => e = .returned (.int .u32 (turnI x 13)) ∧ ∃ m, w' = w.drewN m := turn_at w x 13 (by omega) k
theorem turn22 (w : World) (x : Int) (k : Nat) : Calls Tryz.prog 204 #[.int .u32 x, .int .i64 22] (w.drewN k) fun e w' => e = .returned (.int .u32 (turnI x 22)) ∧ ∃ m, w' = w.drewN m := turn_at w x 22 (by omega) k

section
variable {P : Program}
/-- Is there such a function, and has it a body? -/
def hasBody (P : Program) (f : FuncId) : Bool := match P.funcs[f]? with | some fn => fn.body.isSome && !(fn.name == "runtime.NumGoroutine") | none => false
theorem run_callFunc_body (w : World) (f : FuncId) (args : Array Value) (h : hasBody P f = true) : (callFunc f args).run P w = .ok (.enter f args) w := by
  unfold hasBody at h
  cases hf : P.funcs[f]? with
  | none => rw [hf] at h; cases h
  | some fn =>
    rw [hf] at h
    simp only [Bool.and_eq_true, Bool.not_eq_true'] at h
    obtain ⟨hb, hn⟩ := h
    have hb' : fn.body ≠ none := by intro e; rw [e] at hb; cases hb
    have hn' : fn.name ≠ "runtime.NumGoroutine" := by simpa using hn
    simp [callFunc, hf, hn', hb']
theorem step_call {ops : Array Oper} {o : Oper} {a : Act} {w : World} {K : Act → World → Prop} {Q : Exit → Act → World → Prop} {E : Prop} (hw : Region.wanted o (yielded ops a.tmps) = true) (f : FuncId) (args : List Operand) (ts : Array TypeId)
    (ho : o.op = .call { callee := .value (.func f), args := args.toArray, argTypes := ts }) (hb : hasBody P f = true) (vals : List Value) (hv : args.map a.eval = vals) {R : Value → World → Prop}
    (C : Calls P f vals.toArray w fun e w' => ∃ v, e = .returned v ∧ R v w') (h : ∀ v w', R v w' → K (a.put o.dst v) w') :
    if Region.wanted o (yielded ops a.tmps) = true then Oper.wp P o a w K Q else E := by
  rw [if_pos hw]
  subst hv
  unfold Oper.wp
  have hr : (execOp a.eval o).run P w = .ok (.enter f (args.map a.eval).toArray) w := by
    simp [execOp, ho, resolve, Deferred.ofValue, Act.eval, invoke]
    exact run_callFunc_body w f _ hb
  rw [hr]
  exact C.mono fun e w' ⟨v, he, hR⟩ => by subst he; exact h v w' hR
theorem step_copyStr {ops : Array Oper} {o : Oper} {a : Act} {w : World} {K : Act → World → Prop} {Q : Exit → Act → World → Prop} {E : Prop} (hw : Region.wanted o (yielded ops a.tmps) = true) (d s : Operand) (dT sT elem : TypeId)
    (ho : o.op = .call { callee := .builtin .copy, args := #[d, s], argTypes := #[dT, sT] }) (hu : P.underlying dT = some (.slice elem)) (hsz : (P.info? elem).map (·.size) = some 1)
    (g dLen dCap : Nat) (hd : a.eval d = .slice (some ⟨g, 0, none⟩) dLen dCap) (l : List UInt8) (hs : a.eval s = .string ⟨l.toArray⟩) (hl : l.length ≤ dLen)
    (cs : List Value) (t : TypeId) (hg : w.heap[g]? = some (.cells cs.toArray t (0, 0))) (hfit : l.length ≤ cs.length)
    (h : K (a.put o.dst (goInt l.length)) (w.setRow g (over cs 0 (l.map fun c => .int .u8 (c.toNat : Int))).toArray)) :
    if Region.wanted o (yielded ops a.tmps) = true then Oper.wp P o a w K Q else E := by
  rw [if_pos hw]
  have hst := run_storeCells_at P g 0 t (l.map fun c => Value.int .u8 (c.toNat : Int)) 0 cs.toArray w hg (by simpa using hfit) (by intro u hu; obtain ⟨x, _, rfl⟩ := List.mem_map.1 hu; rfl)
  cases hq : P.info? elem with
  | none => simp [hq] at hsz
  | some i =>
    have his : i.size = 1 := by simpa [hq] using hsz
    have hsl : (ByteArray.mk l.toArray).size = l.length := by simp [ByteArray.size]
    have hf : (Builtin.firstCells 1 l.length (.string ⟨l.toArray⟩)).run P w = .ok (l.map fun c => Value.int .u8 (c.toNat : Int)).toArray w := by
      simp [Builtin.firstCells]
    have hmin : l.length.min dLen = l.length := Nat.min_eq_left hl
    unfold Oper.wp
    have hst2 : (storeCells ⟨g, 0, none⟩ (l.map fun c => Value.int .u8 (c.toNat : Int))).run P w = .ok () (w.setRow g (over cs 0 (l.map fun c => Value.int .u8 (c.toNat : Int))).toArray) := by
      rw [hst]; simp [over]
    simp [execOp, ho, hd, hs, resolve, invoke, builtin, Builtin.copy_, run_underlying hu, Builtin.lenOf, hsl, sizeOf, typeInfo, hq, his, hmin, hf, hst2]
    exact h
end
end Go.Proofs.YtnkcfkjeeennmaaGreatDoor
