/- wire: whole, EncodeAnswer by contracts. An answer as plain data. A writer and the blocks beside it that the caller owns (D): each call as one step. -/
import Derived.Test.YtljnhelnmnomoaaGreatDoorLives
namespace Go.Proofs.YtljnhelnmnomoaaGreatDoor
open Go.RowKit Go.Lib


/-- An answer. -/
structure AnsD where
  code : Nat
  size : Nat
  hs : List (List UInt8)
  leaf : ByteArray
structure AnsD.Ok (a : AnsD) : Prop where
  code : a.code < 256
  size : a.size < 18446744073709551616
  len : ∀ h ∈ a.hs, h.length = 32
  many : a.hs.length ≤ 9223372036854775807
  leaf : a.leaf.size ≤ 9223372036854775807
/-- Where its hashes lie. -/
def HashesAt (w : World) (a : Option Addr) (hs : List (List UInt8)) : Prop :=
  ∀ (i : Nat) (h : List UInt8), hs[i]? = some h → h.length = 32 ∧ ∃ b o, a = some ⟨b, o, none⟩ ∧ ∀ (j : Nat) (u : Value), (h.map u8v)[j]? = some u → w.cell? ⟨b, o + (i * 32 + j), none⟩ = some u
theorem HashesAt.later {w w' : World} {a : Option Addr} {hs : List (List UInt8)} (h : HashesAt w a hs) (u : Ext w w') : HashesAt w' a hs := fun i x hx => by
  obtain ⟨h1, b, o, h2, h3⟩ := h i x hx
  exact ⟨h1, b, o, h2, fun j u' hu => Ext.cellv u (h3 j u' hu)⟩
theorem HashesAt.nil (w : World) (a : Option Addr) : HashesAt w a [] := fun i x hx => by simp at hx
def ansCells (a : AnsD) (v : Value) : Array Value := #[.int .u8 a.code, .int .u64 a.size, v, .string a.leaf]
abbrev maxText : Nat := 1048576
/-- It may not be. -/
def AnsD.bad (a : AnsD) : Prop := 5 < a.code ∨ (a.code ≠ 0 ∧ (a.size ≠ 0 ∨ 0 < a.hs.length ∨ a.leaf ≠ ⟨#[]⟩))
def AnsD.body (a : AnsD) : List UInt8 := fixB 1 a.code ++ varB a.size ++ varB a.hs.length ++ a.hs.flatten ++ (varB a.leaf.size ++ a.leaf.data.toList)
/-- Too long? -/
def wholeE (xs : List UInt8) : EV := if 1048576 < xs.length then some (4, none) else none
def wholeB (xs : List UInt8) : List UInt8 := if 1048576 < xs.length then [] else xs
open Classical in
/-- EncodeAnswer's error; its bytes. -/
noncomputable def ansE (a : AnsD) : EV := if a.bad then some (2, none) else if a.code ≠ 0 then none else if 65536 < a.leaf.size ∨ 1048576 < a.hs.length then some (4, none) else wholeE a.body
open Classical in
noncomputable def ansB (a : AnsD) : List UInt8 := if a.bad then [] else if a.code ≠ 0 then fixB 1 a.code else if 65536 < a.leaf.size ∨ 1048576 < a.hs.length then [] else wholeB a.body

theorem sent_is {B : Nat} {se : Nat → Addr} {w w' : World} (k : Nat) (h1 : 1 ≤ k) (h2 : k ≤ 16) : ErrIs se w' (sv se k) (some (k, none)) := ⟨h1, h2, rfl⟩
/-- whole. -/
theorem whole_any {n : Nat} {se : Nat → Addr} {w w1 : World} {b : Nat} {xs : List UInt8} (h : Own n se w w1 b xs) (hl : xs.length ≤ 9223372036854775807) :
    Calls Tryz.prog 31 #[.pointer (some ⟨b, 0, none⟩)] w1 fun e w' => ∃ v, e = .returned (.tuple #[.string (str (wholeB xs)), v]) ∧ ErrIs se w' v (wholeE xs) ∧ Ext w1 w' := by
  have C := h.done
  have cl := h.g.cell 4 (by omega) (by omega)
  have cl' : w1.cell? ⟨1, 0, none⟩ = some (sv se 4) := cl
  have hsz : (str xs).size = xs.length := str_size xs
  clear h cl
  by_cases hb : 1048576 < xs.length
  · have e1 : wholeB xs = [] := if_pos hb
    have e2 : wholeE xs = some (4, none) := if_pos hb
    rw [e1, e2]
    have hsm : 1048576 < (str xs).size := by omega
    have hs0 : ((1048576 : Int) < (str xs).size) := by omega
    clear e1 e2 hb hsz hl
    generalize str xs = s at C hsm hs0
    go_enter Tryz.func31, Tryz.ntmps31
    go_wp2_with fail
    refine C.mono ?_
    rintro e w2 ⟨rfl, rfl⟩
    go_wp2_with fail
    go_quiet (fail)
    go_wp2_with fail
    exact bodyPost_ret (v := .tuple #[.string ⟨#[]⟩, sv se 4]) (by simp [results, Tryz.results31, go_sem]) rfl ⟨sv se 4, rfl, ⟨by omega, by omega, rfl⟩, by first | exact Upd.refl _ _ | exact ext_drewN _ _⟩
  · have e1 : wholeB xs = xs := if_neg hb
    have e2 : wholeE xs = none := if_neg hb
    rw [e1, e2]
    have hsm : ¬ 1048576 < (str xs).size := by omega
    have hs0 : ¬ ((1048576 : Int) < (str xs).size) := by omega
    clear e1 e2 hb hsz hl
    generalize str xs = s at C hsm hs0 ⊢
    go_enter Tryz.func31, Tryz.ntmps31
    go_wp2_with fail
    refine C.mono ?_
    rintro e w2 ⟨rfl, rfl⟩
    go_wp2_with fail
    exact bodyPost_ret (v := .tuple #[.string s, .nilIface]) (by simp [results, Tryz.results31, go_sem]) rfl ⟨.nilIface, rfl, rfl, Upd.refl _ _⟩

structure WrS (n : Nat) (se : Nat → Addr) (w w' : World) (D : Nat → Prop) (b : Nat) (xs : List UInt8) : Prop where
  g : Genv n se w'
  e : Ext w w'
  hn : w.heap.size ≤ n
  r : ∃ A, Writer n w' A b xs ∧ ∀ k, A k → ¬ D k
  d : ∀ k, D k → n ≤ k ∧ k < w'.heap.size
def notD (D : Nat → Prop) (n : Nat) : Nat → Prop := fun k => n ≤ k ∧ ¬ D k
section
variable {n : Nat} {se : Nat → Addr} {w w1 w2 : World} {D : Nat → Prop} {b : Nat} {xs ys : List UInt8}
theorem WrS.turn (h : WrS n se w w1 D b xs) (u : Upd D w1 w2) : WrS n se w w2 D b xs := by
  obtain ⟨A, r, hA⟩ := h.r
  have hs := u.size
  exact ⟨h.g.below (u.below h.g.size (fun k hk => (h.d k hk).1)), h.e.then u (fun k hk hd => by have := (h.d k hd).1; have := h.hn; omega), h.hn, ⟨A, r.upd u hA, hA⟩, fun k hk => ⟨(h.d k hk).1, by have := (h.d k hk).2; omega⟩⟩
theorem WrS.ext (h : WrS n se w w1 D b xs) (u : Ext w1 w2) : WrS n se w w2 D b xs := h.turn (u.ext D)
theorem WrS.grow (h : WrS n se w w1 D b xs) (u : Upd D w1 w2) : WrS n se w w2 (plus D w1.heap.size w2.heap.size) b xs := by
  obtain ⟨A, r, hA⟩ := h.r
  have hs := u.size
  have hg := h.g.size
  refine ⟨h.g.below (u.below h.g.size (fun k hk => (h.d k hk).1)), h.e.then u (fun k hk hd => by have := (h.d k hd).1; have := h.hn; omega), h.hn, ⟨A, r.upd u hA, fun k hk hd => hd.elim (hA k hk) (fun h2 => by have := r.lt k hk; have := h2.1; omega)⟩, fun k hk => ?_⟩
  rcases hk with hk | hk
  · exact ⟨(h.d k hk).1, by have := (h.d k hk).2; omega⟩
  · exact ⟨by have := hk.1; omega, hk.2⟩
theorem WrS.op (h : WrS n se w w1 D b xs) {f : FuncId} {args : Array Value} {v : Value} (k : ∀ A, Writer n w1 A b xs → Calls Tryz.prog f args w1 fun e w' => e = .returned v ∧ Writer n w' (plus A w1.heap.size w'.heap.size) b ys ∧ Upd A w1 w') :
    Calls Tryz.prog f args w1 fun e w' => e = .returned v ∧ WrS n se w w' D b ys ∧ Upd (notD D n) w1 w' := by
  obtain ⟨A, r, hA⟩ := h.r
  refine (k A r).mono ?_
  rintro e w' ⟨rfl, r2, u⟩
  have hs := u.size
  have u2 : Upd (notD D n) w1 w' := u.mono (fun k _ hk => ⟨r.low k hk, hA k hk⟩)
  refine ⟨rfl, ⟨h.g.below (u.below h.g.size (fun k hk => r.low k hk)), h.e.then u (fun k hk hd => by have := r.low k hd; have := h.hn; omega), h.hn, ⟨_, r2, fun k hk hd => hk.elim (fun hk => hA k hk hd) (fun hk => by have := (h.d k hd).2; have := hk.1; omega)⟩, fun k hk => ⟨(h.d k hk).1, by have := (h.d k hk).2; omega⟩⟩, u2⟩
theorem WrS.var (h : WrS n se w w1 D b xs) (x : Nat) (hx : x < 18446744073709551616) (hl : xs.length + 10 ≤ 1099511627776) :
    Calls Tryz.prog 28 #[.pointer (some ⟨b, 0, none⟩), .int .u64 x] w1 fun e w' => e = .returned (.tuple #[]) ∧ WrS n se w w' D b (xs ++ varB x) ∧ Upd (notD D n) w1 w' := h.op (fun _ r => wvar_ok r x hx h.g.size hl)
theorem WrS.fixed (h : WrS n se w w1 D b xs) (x k : Nat) (hn2 : x < 18446744073709551616) (hk : 1 ≤ k) (hk2 : k ≤ 8) (hn : k < 8 → x / 2 ^ (8 * k) = 0) (hl : xs.length + 8 ≤ 1099511627776) :
    Calls Tryz.prog 26 #[.pointer (some ⟨b, 0, none⟩), .int .u64 x, .int .i64 k] w1 fun e w' => e = .returned .nilIface ∧ WrS n se w w' D b (xs ++ fixB k x) ∧ Upd (notD D n) w1 w' := h.op (fun _ r => wfixed_ok r x k hn2 hk hk2 hn h.g.size hl)
theorem WrS.text (h : WrS n se w w1 D b xs) (s : ByteArray) (hl : xs.length + 10 + s.size ≤ 1099511627776) :
    Calls Tryz.prog 30 #[.pointer (some ⟨b, 0, none⟩), .string s] w1 fun e w' => e = .returned (.tuple #[]) ∧ WrS n se w w' D b (xs ++ (varB s.size ++ s.data.toList)) ∧ Upd (notD D n) w1 w' := h.op (fun _ r => wtext_ok r s h.g.size hl)
theorem WrS.own (h : WrS n se w w1 D b xs) : Own n se w w1 b xs := by
  obtain ⟨A, r, _⟩ := h.r
  exact ⟨h.g, h.e, h.hn, r.weaken (fun k hk => ⟨r.low k hk, r.lt k hk⟩) (fun k hk => hk)⟩
theorem WrS.new (hg : Genv n se w1) (he : Ext w w1) (hn : w.heap.size ≤ n) (hd : ∀ k, D k → n ≤ k ∧ k < w1.heap.size) :
    Calls Tryz.prog 25 #[] w1 fun e w' => e = .returned (.pointer (some ⟨w1.heap.size, 0, none⟩)) ∧ WrS n se w w' D w1.heap.size [] ∧ Ext w1 w' := by
  have X := (Upd.refl none' w1).alloc (.cells #[.slice none 0 0, .bool true] 127)
  refine (newWriter_ok w1).mono ?_
  rintro e w' ⟨rfl, rfl⟩
  exact ⟨rfl, ⟨hg.ext X, he.trans (X.mono (fun _ _ h => h)), hn, ⟨_, newWriter_is w1 n hg.size, fun k hk hd2 => by cases hk; have := (hd _ hd2).2; omega⟩, fun k hk => ⟨(hd k hk).1, by have := (hd k hk).2; simp; omega⟩⟩, X⟩
theorem WrS.keep (h : WrS n se w w1 D b xs) (u : Upd (notD D n) w1 w2) {k : Nat} {o : Obj} (hk : w1.heap[k]? = some o) (hd : D k ∨ k < n) : w2.heap[k]? = some o :=
  u.blk hk (fun hh => hd.elim (fun hd => hh.2 hd) (fun hd => by have := hh.1; omega))
end
end Go.Proofs.YtljnhelnmnomoaaGreatDoor
