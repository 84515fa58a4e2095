/- wire: the table asks; of, number, goes, slices.Contains of ints, may: by contracts. A query as plain data. -/
import Derived.Test.YtljnhelnmnomoaaGreatDoorWireDA
namespace Go.Proofs.YtljnhelnmnomoaaGreatDoor
open Go.RowKit Go.Lib

def askE (k : Nat) : Bool := k == 2 || k == 3 || k == 4 || k == 5
def askN : Nat → List Nat
  | 2 => [0] | 3 => [1, 0] | 4 => [2, 0] | 5 => [3, 4, 0] | 6 => [1] | _ => []
def askL (k : Nat) : Bool := k == 7
def okQ (k : Nat) : Bool := decide (k ≠ 0) && decide (k < 8)
def askCells (k : Nat) (v : Value) : List Value := [.bool (askE k), v, .bool (askL k)]
/-- Ints below block B. -/
def IntsAt (B : Nat) (w : World) (a : Option Addr) (l : List Nat) : Prop := ∀ (j i : Nat), l[j]? = some i → ∃ b o, a = some ⟨b, o, none⟩ ∧ b < B ∧ w.cell? ⟨b, o + j, none⟩ = some (.int .i64 i)
theorem IntsAt.below {B : Nat} {w w' : World} {a : Option Addr} {l : List Nat} (h : IntsAt B w a l) (k : Below B w w') : IntsAt B w' a l := fun j i hj => by
  obtain ⟨b, o, h1, h2, h3⟩ := h j i hj
  exact ⟨b, o, h1, h2, (k.cell (p := ⟨b, o + j, none⟩) h2).trans h3⟩
theorem IntsAt.up {B C : Nat} {w : World} {a : Option Addr} {l : List Nat} (h : IntsAt B w a l) (k : B ≤ C) : IntsAt C w a l := fun j i hj => by
  obtain ⟨b, o, h1, h2, h3⟩ := h j i hj
  exact ⟨b, o, h1, by omega, h3⟩
/-- The table, below block B. -/
structure Asks (B : Nat) (w : World) : Prop where
  at_ : ∀ k, k < 8 → ∃ (a : Option Addr) (cap : Nat), (∀ (j : Nat) (u : Value), (askCells k (.slice a (askN k).length cap))[j]? = some u → w.cell? ⟨3, k * 3 + j, none⟩ = some u) ∧ IntsAt B w a (askN k)
  low : 3 < B
  size : B ≤ w.heap.size
theorem Asks.below {B : Nat} {w w' : World} (h : Asks B w) (k : Below B w w') : Asks B w' :=
  ⟨fun i hi => by
    obtain ⟨a, cap, h1, h2⟩ := h.at_ i hi
    exact ⟨a, cap, fun j u hu => (k.cell (p := ⟨3, i * 3 + j, none⟩) h.low).trans (h1 j u hu), h2.below k⟩, h.low, Nat.le_trans h.size k.size⟩
theorem Asks.ext {B : Nat} {w w' : World} (h : Asks B w) (k : Ext w w') : Asks B w' := h.below (Ext.below k h.size)
theorem Asks.up {B C : Nat} {w : World} (h : Asks B w) (h1 : B ≤ C) (h2 : C ≤ w.heap.size) : Asks C w :=
  ⟨fun i hi => by obtain ⟨a, cap, h3, h4⟩ := h.at_ i hi; exact ⟨a, cap, h3, h4.up h1⟩, by have := h.low; omega, h2⟩
theorem IntsAt.extB {B : Nat} {w w' : World} {a : Option Addr} {l : List Nat} (h : IntsAt B w a l) (hB : B ≤ w.heap.size) (k : Ext w w') : IntsAt B w' a l := h.below (Ext.below k hB)

theorem ask_size : (Tryz.prog.info? 83).map (·.size) = some 3 := by kernel_rfl
theorem ask_one (k a n cap) : ∀ u ∈ askCells k (.slice a n cap), u.oneCell' = true := fun u hu => by
  simp only [askCells, List.mem_cons, List.not_mem_nil, or_false] at hu
  rcases hu with rfl | rfl | rfl <;> rfl
def zeroAsk : List Value := [.bool false, .slice none 0 0, .bool false]
theorem resOf (tmps : Array Value) (w : World) (g : Nat) (cs : Array Value) (v : Value) (hp : tmps.getD 2 undef = .pointer (some ⟨g, 0, none⟩)) (hv : tmps.getD 3 undef = v) (hg : w.heap[g]? = some (.cells cs 83 (0, 0))) (hs : cs.size = 3) :
    (results Tryz.f27 tmps).run Tryz.prog w = .ok (.tuple #[.agg cs, v]) w := by
  rw [← hv]
  exact results_cell_two rfl tmps w g 83 cs (0, 0) _ hp hg Tryz.underlying83 rfl (by rw [hs]; exact ask_size)
/-- What of gives. -/
def OfPost (B : Nat) (w : World) (k : Nat) (e : Ending) (w' : World) : Prop :=
  ∃ (a : Option Addr) (cap : Nat), e = .returned (.tuple #[.agg #[.bool (askE k), .slice a (askN k).length cap, .bool (askL k)], .bool (okQ k)]) ∧ IntsAt B w' a (askN k) ∧ Ext w w'
theorem store_whole {P : Program} {w : World} {ops : Array Oper} {rest : List Oper} {o : Oper} {a : Act} {Q : Exit → Act → World → Prop} (hgd : o.guard = none) (ty : TypeId) (x y : Operand) (ho : o.op = .store ty x y)
    (g : Nat) (hx : a.eval x = .pointer (some ⟨g, 0, none⟩)) (vs : List Value) (hy : a.eval y = .agg vs.toArray) (hi : (P.info? ty).map (·.size) = some vs.length)
    (cs : List Value) (t : TypeId) (hg : w.heap[g]? = some (.cells cs.toArray t (0, 0))) (hl : cs.length = vs.length) (h1 : ∀ u ∈ vs, u.oneCell' = true)
    (h : wpList P ops Q rest (a.put o.dst undef) (w.setRow g vs.toArray)) : wpList P ops Q (o :: rest) a w := by
  refine wpList_storeAgg hgd ty x y ho g 0 hx vs hy hi cs t hg (by omega) h1 ?_
  rw [over_all _ _ hl]
  exact h
theorem of_any {B : Nat} {w : World} (A : Asks B w) (k : Nat) (hk : k < 256) : Calls Tryz.prog 27 #[.int .u8 k] w (OfPost B w k) := by
  have X := (Upd.refl none' w).alloc (.cells zeroAsk.toArray 83)
  have hb := blk_alloc w (.cells zeroAsk.toArray 83)
  by_cases h0 : k = 0
  · subst h0
    have HX := Lib.hid X
    have HB := Lib.hid hb
    have hF := Lib.hid (blk_setRow hb zeroAsk.toArray)
    clear A X hb
    go_enter Tryz.func27, Tryz.ntmps27
    go_wp2_with (refine store_whole rfl 83 _ _ rfl w.heap.size rfl zeroAsk rfl ask_size zeroAsk 83 HB.out rfl (ask_one 0 none 0 0) ?_)
    exact bodyPost_ret (v := .tuple #[.agg zeroAsk.toArray, .bool false]) (resOf _ _ w.heap.size _ _ rfl rfl hF.out rfl) rfl ⟨none, 0, rfl, fun j i hj => by simp [askN] at hj, HX.out.setRow (.inl (Nat.le_refl _)) _⟩
  · have d0 : ((k : Int) == 0) = false := by simp; omega
    by_cases h8 : k < 8
    · obtain ⟨a, cap, hc, hi⟩ := A.at_ k h8
      have d8 : ¬ (8 : Int) ≤ k := by omega
      have hlow := A.low
      have HC := Lib.hid (fun (j : Nat) (u : Value) (hu : (askCells k (.slice a (askN k).length cap))[j]? = some u) => show World.cell? (w.alloc (.cells zeroAsk.toArray 83)) ⟨3, k * 3 + j, none⟩ = some u from Ext.cellv X (hc j u hu))
      have HI := Lib.hid (hi.extB A.size X)
      have HSZ := Lib.hid A.size
      have HX := Lib.hid X
      have HB := Lib.hid hb
      have hF := Lib.hid (blk_setRow hb (askCells k (.slice a (askN k).length cap)).toArray)
      have ho : okQ k = true := by unfold okQ; simp [h0, h8]
      have HOQ := Lib.hid ho
      clear A X hb hc hi ho h0 hlow
      go_enter Tryz.func27, Tryz.ntmps27
      go_wp2_with (first
        | (refine wpList_loadAgg rfl 83 _ rfl 3 (k * 3) rfl (askCells k (.slice a (askN k).length cap)) Tryz.underlying83 rfl ask_size HC.out ?_)
        | (refine store_whole rfl 83 _ _ rfl w.heap.size rfl (askCells k (.slice a (askN k).length cap)) rfl ask_size zeroAsk 83 HB.out rfl (ask_one _ _ _ _) ?_))
      exact bodyPost_ret (v := .tuple #[.agg (askCells k (.slice a (askN k).length cap)).toArray, .bool true]) (resOf _ _ w.heap.size _ _ rfl rfl hF.out rfl) rfl ⟨a, cap, by rw [HOQ.out]; rfl, HI.out.below (((Upd.refl (one w.heap.size) _).setRow (.inr rfl) _).below (by simp; have := HSZ.out; omega) (fun b hb => by cases hb; exact HSZ.out)), HX.out.setRow (.inl (Nat.le_refl _)) _⟩
    · have d8 : (8 : Int) ≤ k := by omega
      have en : askN k = [] := by unfold askN; split <;> first | rfl | omega
      have ee : askE k = false := by unfold askE; simp; omega
      have el : askL k = false := by unfold askL; simp; omega
      have eo : okQ k = false := by unfold okQ; simp; omega
      have HX := Lib.hid X
      have HB := Lib.hid hb
      have hF := Lib.hid (blk_setRow hb zeroAsk.toArray)
      have HEN := Lib.hid en
      have HEE := Lib.hid ee
      have HEL := Lib.hid el
      have HEO := Lib.hid eo
      clear A X hb en ee el eo h8 h0
      go_enter Tryz.func27, Tryz.ntmps27
      go_wp2_with (refine store_whole rfl 83 _ _ rfl w.heap.size rfl zeroAsk rfl ask_size zeroAsk 83 HB.out rfl (ask_one 0 none 0 0) ?_)
      exact bodyPost_ret (v := .tuple #[.agg zeroAsk.toArray, .bool false]) (resOf _ _ w.heap.size _ _ rfl rfl hF.out rfl) rfl ⟨none, 0, by rw [HEN.out, HEO.out, HEE.out, HEL.out]; rfl, fun j i hj => by rw [HEN.out] at hj; simp at hj, HX.out.setRow (.inl (Nat.le_refl _)) _⟩
theorem number_any (b i : Nat) (hi : i < 5) (w : World) : Calls Tryz.prog 29 #[.pointer (some ⟨b, 0, none⟩), .int .i64 i] w fun e w' => e = .returned (.pointer (some ⟨b, i + 2, none⟩)) ∧ w = w' := by
  rcases (show i = 0 ∨ i = 1 ∨ i = 2 ∨ i = 3 ∨ i = 4 by omega) with rfl | rfl | rfl | rfl | rfl
  all_goals
    go_enter Tryz.func29, Tryz.ntmps29
    go_wp2
    go_ret
    exact ⟨rfl, rfl⟩
def goesB (k e : Nat) : Bool := if askE k then decide (1 ≤ e) && decide (e ≤ 3) else decide (e = 0)
theorem goes_any (k e : Nat) (he : e < 256) (a : Option Addr) (n cap : Nat) (w : World) : Calls Tryz.prog 51 #[.agg #[.bool (askE k), .slice a n cap, .bool (askL k)], .int .u8 e] w fun x w' => x = .returned (.bool (goesB k e)) ∧ Ext w w' := by
  have X := (Upd.refl none' w).alloc (.cells #[.bool (askE k), .slice a n cap, .bool (askL k)] 83)
  have c0 := cell_of_blk (blk_alloc w (.cells #[.bool (askE k), .slice a n cap, .bool (askL k)] 83)) 0
  unfold goesB
  simp only [List.size_toArray, List.getElem?_toArray, List.getElem?_cons_zero, List.getElem?_cons_succ] at c0
  generalize askE k = b at *
  generalize askL k = l at *
  have HX := Lib.hid X
  clear X
  cases b
  · by_cases h0 : e = 0
    · subst h0
      go_enter Tryz.func51, Tryz.ntmps51
      go_wp2
      go_ret
      exact ⟨rfl, HX.out⟩
    · have d0 : ((e : Int) == 0) = false := by simp; omega
      have de : decide (e = 0) = false := by simp [h0]
      rw [if_neg (by simp), de]
      clear h0 de
      go_enter Tryz.func51, Tryz.ntmps51
      go_wp2
      go_ret
      exact ⟨rfl, HX.out⟩
  · rw [if_pos rfl]
    by_cases h1 : 1 ≤ e
    · have d1 : (1 : Int) ≤ e := by omega
      by_cases h3 : e ≤ 3
      · have d3 : (e : Int) ≤ 3 := by omega
        have de : (decide (1 ≤ e) && decide (e ≤ 3)) = true := by simp [h1, h3]
        rw [de]
        clear h1 h3 de
        go_enter Tryz.func51, Tryz.ntmps51
        go_wp2
        go_ret
        exact ⟨rfl, HX.out⟩
      · have d3 : ¬ (e : Int) ≤ 3 := by omega
        have de : (decide (1 ≤ e) && decide (e ≤ 3)) = false := by simp [h1, h3]
        rw [de]
        clear h1 h3 de
        go_enter Tryz.func51, Tryz.ntmps51
        go_wp2
        go_ret
        exact ⟨rfl, HX.out⟩
    · have d1 : ¬ (1 : Int) ≤ e := by omega
      have de : (decide (1 ≤ e) && decide (e ≤ 3)) = false := by simp [h1]
      rw [de]
      clear h1 de
      go_enter Tryz.func51, Tryz.ntmps51
      go_wp2
      go_ret
      exact ⟨rfl, HX.out⟩
/-- slices.Index of ints: there or not. -/
theorem index_any {B : Nat} {w : World} {a : Option Addr} {l : List Nat} (h : IntsAt B w a l) (cap i : Nat) (hl : l.length ≤ 1000) : Calls Tryz.prog 161 #[.slice a l.length cap, .int .i64 i] w fun e w' => (∃ z : Int, e = .returned (.int .i64 z) ∧ (decide (0 ≤ z) = decide (i ∈ l))) ∧ w = w' := by
  have HH := Lib.hid h
  clear h
  go_enter Tryz.func161, Tryz.ntmps161
  go_wp2
  go_loopw [8] (fun iv wr => ∃ j : Nat, iv = .int .i64 j ∧ j ≤ l.length ∧ w = wr ∧ ∀ x ∈ l.take j, x ≠ i) (fun iv _ => l.length - (RowKit.intOf iv).toNat)
  case atStart => exact ⟨0, rfl, Nat.zero_le _, rfl, fun x hx => by simp at hx⟩
  case round =>
    obtain ⟨j, rfl, hj, rfl, hn⟩ := hrel
    have HN := Lib.hid hn
    clear hn
    by_cases hlt : j < l.length
    · have hg : l[j]? = some l[j] := List.getElem?_eq_getElem hlt
      obtain ⟨b, o, rfl, _, hc⟩ := HH.out j _ hg
      have HG := Lib.hid hg
      have hlti : (j : Int) < l.length := by omega
      generalize hv : l[j] = v at *
      clear hg
      by_cases he : i = v
      · subst he
        have HV := Lib.hid hv
        clear hv
        go_wp2
        go_ret
        exact ⟨⟨j, rfl, by simp; exact HV.out ▸ List.getElem_mem hlt⟩, rfl⟩
      · have hne : ((i : Int) == v) = false := by simp; omega
        have HV := Lib.hid hv
        have HE := Lib.hid he
        clear hv he
        go_wp2
        refine ⟨⟨j + 1, by simp, by omega, by first | rfl | trivial, fun x hx => ?_⟩, by simp [RowKit.intOf]; omega⟩
        rw [List.take_add_one, HG.out] at hx
        rcases List.mem_append.1 hx with hx | hx
        · exact HN.out x hx
        · have : x = v := by simpa using hx
          subst this
          exact fun e => HE.out e.symm
    · obtain rfl : j = l.length := by omega
      go_wp2
      go_ret
      refine ⟨⟨-1, rfl, ?_⟩, rfl⟩
      have h1 : i ∉ l := fun hx => HN.out i (by rw [List.take_length]; exact hx) rfl
      simp [h1]
theorem contains_any {B : Nat} {w : World} {a : Option Addr} {l : List Nat} (h : IntsAt B w a l) (cap i : Nat) (hl : l.length ≤ 1000) : Calls Tryz.prog 111 #[.slice a l.length cap, .int .i64 i] w fun e w' => e = .returned (.bool (decide (i ∈ l))) ∧ w = w' := by
  have C := index_any h cap i hl
  clear h
  go_enter Tryz.func111, Tryz.ntmps111
  go_wp2_with fail
  refine C.mono ?_
  rintro e w2 ⟨⟨z, rfl, hz⟩, rfl⟩
  have HZ := Lib.hid hz
  clear hz C
  go_wp2_with fail
  all_goals
    go_ret
    refine ⟨?_, rfl⟩
    rw [← HZ.out]
    rfl
end Go.Proofs.YtljnhelnmnomoaaGreatDoor
