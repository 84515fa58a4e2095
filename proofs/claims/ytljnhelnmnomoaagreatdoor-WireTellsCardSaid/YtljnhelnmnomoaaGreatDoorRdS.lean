/- A reader and the blocks beside it that the caller owns (D): each call as one step; wire.wrong, wire.broken. -/
import Derived.Test.YtljnhelnmnomoaaGreatDoorLives
namespace Go.Proofs.YtljnhelnmnomoaaGreatDoor
open Go.RowKit Go.Lib

structure RdS (n : Nat) (se : Nat → Addr) (w w' : World) (D : Nat → Prop) (b : Nat) (x : RdD) : Prop where
  g : Genv n se w'
  e : Ext w w'
  hn : w.heap.size ≤ n
  r : ∃ A, Reader n se w' A b x ∧ ∀ k, A k → ¬ D k
  d : ∀ k, D k → n ≤ k ∧ k < w'.heap.size
section
variable {n : Nat} {se : Nat → Addr} {w w1 w2 : World} {D : Nat → Prop} {b : Nat} {x y : RdD}
theorem RdS.nb (h : RdS n se w w1 D b x) : ¬ D b := by
  obtain ⟨A, r, hA⟩ := h.r
  exact hA b r.mem
theorem RdS.size (h : RdS n se w w1 D b x) : x.s.size ≤ 9223372036854775807 := by
  obtain ⟨A, r, _⟩ := h.r
  exact r.sz
theorem RdS.nlow (h : RdS n se w w1 D b x) : n ≤ b := by
  obtain ⟨A, r, _⟩ := h.r
  exact r.low b r.mem
theorem RdS.blt (h : RdS n se w w1 D b x) : b < w1.heap.size := by
  obtain ⟨A, r, _⟩ := h.r
  exact r.lt b r.mem
theorem RdS.turn (h : RdS n se w w1 D b x) (u : Upd D w1 w2) : RdS n se w w2 D b x := by
  obtain ⟨A, r, hA⟩ := h.r
  have hs := u.size
  exact ⟨h.g.below (u.below h.g.size (fun k hk => (h.d k hk).1)), h.e.then u (fun k hk hd => by have := (h.d k hd).1; have := h.hn; omega), h.hn, ⟨A, r.upd u hA, hA⟩, fun k hk => ⟨(h.d k hk).1, by have := (h.d k hk).2; omega⟩⟩
theorem RdS.ext (h : RdS n se w w1 D b x) (u : Ext w1 w2) : RdS n se w w2 D b x := h.turn (u.ext D)
/-- What is new belongs to the caller. -/
theorem RdS.grow (h : RdS n se w w1 D b x) (u : Upd D w1 w2) : RdS n se w w2 (plus D w1.heap.size w2.heap.size) b x := by
  obtain ⟨A, r, hA⟩ := h.r
  have hs := u.size
  have hg := h.g.size
  refine ⟨h.g.below (u.below h.g.size (fun k hk => (h.d k hk).1)), h.e.then u (fun k hk hd => by have := (h.d k hd).1; have := h.hn; omega), h.hn, ⟨A, r.upd u hA, fun k hk hd => hd.elim (hA k hk) (fun h2 => by have := r.lt k hk; have := h2.1; omega)⟩, fun k hk => ?_⟩
  rcases hk with hk | hk
  · exact ⟨(h.d k hk).1, by have := (h.d k hk).2; omega⟩
  · exact ⟨by have := hk.1; omega, hk.2⟩
theorem RdS.op (h : RdS n se w w1 D b x) {f : FuncId} {args : Array Value} {v : Value} (k : ∀ A, Reader n se w1 A b x → Calls Tryz.prog f args w1 fun e w' => e = .returned v ∧ Reader n se w' (plus A w1.heap.size w'.heap.size) b y ∧ Upd (one b) w1 w') :
    Calls Tryz.prog f args w1 fun e w' => e = .returned v ∧ RdS n se w w' D b y ∧ Upd (one b) w1 w' := by
  obtain ⟨A, r, hA⟩ := h.r
  have hl := r.low b r.mem
  refine (k A r).mono ?_
  rintro e w' ⟨rfl, r2, u⟩
  have hs := u.size
  refine ⟨rfl, ⟨h.g.below (u.below h.g.size (fun k hk => by cases hk; exact hl)), h.e.then u (fun k hk hd => by cases hd; have := h.hn; omega), h.hn, ⟨_, r2, fun k hk hd => hk.elim (fun hk => hA k hk hd) (fun hk => by have := (h.d k hd).2; have := hk.1; omega)⟩, fun k hk => ⟨(h.d k hk).1, by have := (h.d k hk).2; omega⟩⟩, u⟩
theorem RdS.var (h : RdS n se w w1 D b x) : Calls Tryz.prog 52 #[.pointer (some ⟨b, 0, none⟩)] w1 fun e w' => e = .returned (.int .u64 x.var.1) ∧ RdS n se w w' D b x.var.2 ∧ Upd (one b) w1 w' := h.op (fun _ r => var_ok h.g r)
theorem RdS.fixed (h : RdS n se w w1 D b x) (k : Int) : Calls Tryz.prog 50 #[.pointer (some ⟨b, 0, none⟩), .int .i64 k] w1 fun e w' => e = .returned (.int .u64 (x.fixed k).1) ∧ RdS n se w w' D b (x.fixed k).2 ∧ Upd (one b) w1 w' := h.op (fun _ r => fixed_ok h.g r k)
theorem RdS.text (h : RdS n se w w1 D b x) (m : Int) (hm : m ≤ 9223372036854775807) : Calls Tryz.prog 53 #[.pointer (some ⟨b, 0, none⟩), .int .i64 m] w1 fun e w' => e = .returned (.string (str (x.text m).1)) ∧ RdS n se w w' D b (x.text m).2 ∧ Upd (one b) w1 w' := h.op (fun _ r => text_ok h.g r m hm)
theorem RdS.hash (h : RdS n se w w1 D b x) : Calls Tryz.prog 106 #[.pointer (some ⟨b, 0, none⟩)] w1 fun e w' => e = .returned (.agg (x.hash.1.map u8v).toArray) ∧ RdS n se w w' D b x.hash.2 ∧ Upd (one b) w1 w' := h.op (fun _ r => hash_ok h.g r)
theorem RdS.left (h : RdS n se w w1 D b x) : Calls Tryz.prog 158 #[.pointer (some ⟨b, 0, none⟩)] w1 fun e w' => e = .returned (.int .i64 x.left) ∧ Ext w1 w' := by
  obtain ⟨A, r, _⟩ := h.r
  exact left_ok r
theorem RdS.end (h : RdS n se w w1 D b x) : Calls Tryz.prog 54 #[.pointer (some ⟨b, 0, none⟩)] w1 fun e w' => ∃ v, e = .returned v ∧ ErrIs se w' v x.fin ∧ Ext w1 w' := by
  obtain ⟨A, r, _⟩ := h.r
  exact end_ok h.g r
theorem RdS.pos (h : RdS n se w w1 D b x) (hf : x.f = none) : x.pos ≤ x.s.size := by
  obtain ⟨A, r, _⟩ := h.r
  obtain ⟨fv, a, _, h2, h3, _⟩ := r.ex
  rw [← h3 hf]; exact h2
theorem RdS.new (hg : Genv n se w1) (he : Ext w w1) (hn : w.heap.size ≤ n) (hd : ∀ k, D k → n ≤ k ∧ k < w1.heap.size) (s : ByteArray) (hs : s.size ≤ 9223372036854775807) :
    Calls Tryz.prog 49 #[.string s] w1 fun e w' => e = .returned (.pointer (some ⟨w1.heap.size, 0, none⟩)) ∧ RdS n se w w' D w1.heap.size ⟨s, 0, none⟩ ∧ Ext w1 w' := by
  have X := (Upd.refl none' w1).alloc (.cells #[.string s, .int .i64 0, .nilIface, .bool true] 145)
  refine (newReader_ok s w1).mono ?_
  rintro e w' ⟨rfl, rfl⟩
  exact ⟨rfl, ⟨hg.ext X, he.trans (X.mono (fun _ _ h => h)), hn, ⟨_, newReader_is s hs w1 n hg.size se, fun k hk hd2 => by cases hk; have := (hd _ hd2).2; omega⟩, fun k hk => ⟨(hd k hk).1, by have := (hd k hk).2; simp; omega⟩⟩, X⟩

theorem wrong_any {B : Nat} (G : Genv B se w) (n : Int) : Calls Tryz.prog 48 #[.int .i64 n] w fun e w' => ∃ v, e = .returned v ∧ ErrIs se w' v (some (3, some n)) ∧ Ext w w' := by
  have X := (Upd.refl none' w).alloc (.cells #[sv se 3, .int .i64 n] 143)
  have hf := blk_alloc w (.cells #[sv se 3, .int .i64 n] 143)
  have c3 := G.cell 3 (by decide) (by decide)
  simp only [gno] at c3
  have HX := Lib.hid X
  have HF := Lib.hid hf
  clear X hf G
  go_enter Tryz.func48, Tryz.ntmps48
  go_wp2_with fail
  go_ret
  exact ⟨_, rfl, ⟨by omega, by omega, _, rfl, HF.out⟩, HX.out⟩
/-- Has the reader met a fault? -/
theorem broken_any (h : RdS n se w w1 D b x) : Calls Tryz.prog 107 #[.pointer (some ⟨b, 0, none⟩)] w1 fun e w' => e = .returned (.bool (decide (x.f ≠ none))) ∧ RdS n se w w' D b x ∧ Ext w1 w' := by
  have C := h.left
  have E := fun w2 (u : Ext w1 w2) => (h.ext u).end
  have hp := h.pos
  have HH := Lib.hid h
  clear h
  by_cases hf : x.f = none
  · have hd : decide (x.f ≠ none) = false := by simp [hf]
    have hpos := hp hf
    rw [hd]
    have el : x.left = (x.s.size : Int) - x.pos := if_pos hf
    rw [el] at C
    by_cases hz : x.pos = x.s.size
    · have ez : ((x.s.size : Int) - x.pos) = 0 := by omega
      rw [ez] at C
      have efin : x.fin = none := by unfold RdD.fin; rw [if_neg (by omega), hf]
      rw [efin] at E
      have HE := Lib.hid E
      clear hp hd hpos el ez efin hz hf E
      go_enter Tryz.func107, Tryz.ntmps107
      go_wp2_with fail
      refine C.mono ?_
      rintro e w2 ⟨rfl, u⟩
      have E := HE.out w2 u
      have HU := Lib.hid u
      clear u C
      go_wp2_with fail
      refine E.mono ?_
      rintro e w3 ⟨v, rfl, hv, u2⟩
      obtain rfl : v = .nilIface := hv
      have HU2 := Lib.hid (HU.out.trans (u2.mono (fun _ _ h => h)))
      clear u2 E
      go_wp2_with fail
      go_ret
      exact ⟨rfl, HH.out.ext HU2.out, HU2.out⟩
    · have ez : (((x.s.size : Int) - x.pos) == 0) = false := by simp; omega
      have ez2 : ¬ ((x.s.size : Int) - x.pos) = 0 := by omega
      generalize ((x.s.size : Int) - x.pos) = l at C ez ez2
      clear hp hd hpos el hz hf E
      go_enter Tryz.func107, Tryz.ntmps107
      go_wp2_with fail
      refine C.mono ?_
      rintro e w2 ⟨rfl, u⟩
      have HU := Lib.hid u
      clear u C
      go_wp2_with fail
      go_ret
      exact ⟨rfl, HH.out.ext HU.out, HU.out⟩
  · have hd : decide (x.f ≠ none) = true := by simp [hf]
    rw [hd]
    have el : x.left = 0 := if_neg hf
    rw [el] at C
    have efin : x.fin = x.f := by unfold RdD.fin; rw [if_neg (fun h => hf h.1)]
    rw [efin] at E
    have HE := Lib.hid E
    have HF := Lib.hid hf
    clear hp hd el efin hf E
    go_enter Tryz.func107, Tryz.ntmps107
    go_wp2_with fail
    refine C.mono ?_
    rintro e w2 ⟨rfl, u⟩
    have E := HE.out w2 u
    have HU := Lib.hid u
    clear u C
    go_wp2_with fail
    refine E.mono ?_
    rintro e w3 ⟨v, rfl, hv, u2⟩
    have hi := (err_form hv).resolve_left (fun h => HF.out h.2)
    obtain ⟨⟨t, y, rfl⟩, _⟩ := hi
    have HU2 := Lib.hid (HU.out.trans (u2.mono (fun _ _ h => h)))
    clear u2 E hv
    go_wp2_with fail
    go_ret
    exact ⟨rfl, HH.out.ext HU2.out, HU2.out⟩
end
end Go.Proofs.YtljnhelnmnomoaaGreatDoor
