/- wire: whole, EncodeAnswer by contracts. An answer as plain data. -/
import Derived.Test.YtkdhjighomnooaaDoorLives
namespace Go.Proofs.YtkdhjighomnooaaDoor
open Go.RowKit Go.Lib

/-- An answer. -/
structure AnsD where
  code : Nat
  size : Nat
  hs : List (List UInt8)
  leaf : ByteArray
structure AnsD.Ok (a : AnsD) : Prop where
  code : a.code < 256
  size : a.size < 18446744073709551616
  len : ∀ h ∈ a.hs, h.length = 32
  many : a.hs.length ≤ 9223372036854775807
  leaf : a.leaf.size ≤ 9223372036854775807
/-- Where its hashes lie. -/
def HashesAt (w : World) (a : Option Addr) (hs : List (List UInt8)) : Prop :=
  ∀ (i : Nat) (h : List UInt8), hs[i]? = some h → h.length = 32 ∧ ∃ b o, a = some ⟨b, o, none⟩ ∧ ∀ (j : Nat) (u : Value), (h.map u8v)[j]? = some u → w.cell? ⟨b, o + (i * 32 + j), none⟩ = some u
theorem HashesAt.later {w w' : World} {a : Option Addr} {hs : List (List UInt8)} (h : HashesAt w a hs) (u : Ext w w') : HashesAt w' a hs := fun i x hx => by
  obtain ⟨h1, b, o, h2, h3⟩ := h i x hx
  exact ⟨h1, b, o, h2, fun j u' hu => Ext.cellv u (h3 j u' hu)⟩
theorem HashesAt.nil (w : World) (a : Option Addr) : HashesAt w a [] := fun i x hx => by simp at hx
def ansCells (a : AnsD) (v : Value) : Array Value := #[.int .u8 a.code, .int .u64 a.size, v, .string a.leaf]
abbrev maxText : Nat := 1048576
/-- It may not be. -/
def AnsD.bad (a : AnsD) : Prop := 5 < a.code ∨ (a.code ≠ 0 ∧ (a.size ≠ 0 ∨ 0 < a.hs.length ∨ a.leaf ≠ ⟨#[]⟩))
def AnsD.body (a : AnsD) : List UInt8 := fixB 1 a.code ++ varB a.size ++ varB a.hs.length ++ a.hs.flatten ++ (varB a.leaf.size ++ a.leaf.data.toList)
/-- Too long? -/
def wholeE (xs : List UInt8) : EV := if 1048576 < xs.length then some (4, none) else none
def wholeB (xs : List UInt8) : List UInt8 := if 1048576 < xs.length then [] else xs
open Classical in
/-- EncodeAnswer's error; its bytes. -/
noncomputable def ansE (a : AnsD) : EV := if a.bad then some (2, none) else if a.code ≠ 0 then none else if 65536 < a.leaf.size ∨ 1048576 < a.hs.length then some (4, none) else wholeE a.body
open Classical in
noncomputable def ansB (a : AnsD) : List UInt8 := if a.bad then [] else if a.code ≠ 0 then fixB 1 a.code else if 65536 < a.leaf.size ∨ 1048576 < a.hs.length then [] else wholeB a.body

theorem sent_is {B : Nat} {se : Nat → Addr} {w w' : World} (k : Nat) (h1 : 1 ≤ k) (h2 : k ≤ 16) : ErrIs se w' (sv se k) (some (k, none)) := ⟨h1, h2, rfl⟩
/-- whole. -/
theorem whole_any {n : Nat} {se : Nat → Addr} {w w1 : World} {b : Nat} {xs : List UInt8} (h : Own n se w w1 b xs) (hl : xs.length ≤ 9223372036854775807) :
    Calls Tryd.prog 27 #[.pointer (some ⟨b, 0, none⟩)] w1 fun e w' => ∃ v, e = .returned (.tuple #[.string (str (wholeB xs)), v]) ∧ ErrIs se w' v (wholeE xs) ∧ Ext w1 w' := by
  have C := h.done
  have cl := h.g.cell 4 (by omega) (by omega)
  have cl' : w1.cell? ⟨1, 0, none⟩ = some (sv se 4) := cl
  have hsz : (str xs).size = xs.length := str_size xs
  clear h cl
  by_cases hb : 1048576 < xs.length
  · have e1 : wholeB xs = [] := if_pos hb
    have e2 : wholeE xs = some (4, none) := if_pos hb
    rw [e1, e2]
    have hsm : 1048576 < (str xs).size := by omega
    have hs0 : ((1048576 : Int) < (str xs).size) := by omega
    clear e1 e2 hb hsz hl
    generalize str xs = s at C hsm hs0
    go_enter Tryd.func27, Tryd.ntmps27
    go_wp2_with fail
    refine C.mono ?_
    rintro e w2 ⟨rfl, rfl⟩
    go_wp2_with fail
    go_quiet (fail)
    go_wp2_with fail
    exact bodyPost_ret (v := .tuple #[.string ⟨#[]⟩, sv se 4]) (by simp [results, Tryd.results27, go_sem]) rfl ⟨sv se 4, rfl, ⟨by omega, by omega, rfl⟩, by first | exact Upd.refl _ _ | exact ext_drewN _ _⟩
  · have e1 : wholeB xs = xs := if_neg hb
    have e2 : wholeE xs = none := if_neg hb
    rw [e1, e2]
    have hsm : ¬ 1048576 < (str xs).size := by omega
    have hs0 : ¬ ((1048576 : Int) < (str xs).size) := by omega
    clear e1 e2 hb hsz hl
    generalize str xs = s at C hsm hs0 ⊢
    go_enter Tryd.func27, Tryd.ntmps27
    go_wp2_with fail
    refine C.mono ?_
    rintro e w2 ⟨rfl, rfl⟩
    go_wp2_with fail
    exact bodyPost_ret (v := .tuple #[.string s, .nilIface]) (by simp [results, Tryd.results27, go_sem]) rfl ⟨.nilIface, rfl, rfl, Upd.refl _ _⟩
end Go.Proofs.YtkdhjighomnooaaDoor
