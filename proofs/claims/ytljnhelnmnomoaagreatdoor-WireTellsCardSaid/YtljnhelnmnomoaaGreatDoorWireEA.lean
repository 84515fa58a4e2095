/- wire.EncodeAnswer by a contract, of any answer. wire.EncodeAnswer by a contract: an answer that may be. wire.EncodeAnswer by a contract: an answer that is well; and of any answer. -/
import Derived.Test.YtljnhelnmnomoaaGreatDoorWire
import Derived.Laws.Strings
import Derived.Test.YtljnhelnmnomoaaGreatDoorAgg
namespace Go.Proofs.YtljnhelnmnomoaaGreatDoor
open Go.RowKit Go.Lib


theorem flat_len (hs : List (List UInt8)) (h : ∀ x ∈ hs, x.length = 32) : hs.flatten.length = 32 * hs.length := by
  induction hs with
  | nil => rfl
  | cons a t ih =>
    have h1 := h a (by simp)
    have h2 := ih (fun x hx => h x (by simp [hx]))
    simp [h1, h2]; omega
theorem flat_take (hs : List (List UInt8)) (i : Nat) (h : List UInt8) (hi : hs[i]? = some h) : (hs.take (i + 1)).flatten = (hs.take i).flatten ++ h := by
  rw [List.take_add_one, hi]; simp
theorem empty_yes (x : ByteArray) : x.toList.isEmpty = true ↔ x = ⟨#[]⟩ := by
  rw [ByteArray.toList_eq, List.isEmpty_iff, Array.toList_eq_nil_iff]
  exact ⟨fun h => ByteArray.ext h, fun h => by rw [h]⟩
theorem empty_no (x : ByteArray) : x.toList.isEmpty = false ↔ x ≠ ⟨#[]⟩ := by rw [Ne, ← empty_yes x, Bool.not_eq_true]
/-- ErrArg. -/
theorem encA_bad {B : Nat} {se : Nat → Addr} {w : World} (G : Genv B se w) (a : AnsD) (ha : a.Ok) (ad : Option Addr) (ca : Nat) (hb : a.bad) :
    Calls Tryz.prog 41 #[.agg (ansCells a (.slice ad a.hs.length ca))] w fun e w' => ∃ v, e = .returned (.tuple #[.string (str (ansB a)), v]) ∧ ErrIs se w' v (ansE a) ∧ Ext w w' := by
  have e1 : ansB a = [] := if_pos hb
  have e2 : ansE a = some (2, none) := if_pos hb
  rw [e1, e2]
  clear e1 e2
  obtain ⟨code, size, hs, leaf⟩ := a
  obtain ⟨h1, h2, h3, h4, h5⟩ := ha
  simp only [ansCells, AnsD.bad] at hb h1 h2 h3 h4 h5 ⊢
  have hbl := blk_alloc w (.cells #[.int .u8 code, .int .u64 size, .slice ad hs.length ca, .string leaf] 70)
  have X := (Upd.refl none' w).alloc (.cells #[.int .u8 code, .int .u64 size, .slice ad hs.length ca, .string leaf] 70)
  have c0 := cell_of_blk hbl 0
  have c1 := cell_of_blk hbl 1
  have c2 := cell_of_blk hbl 2
  have c3 := cell_of_blk hbl 3
  simp only [List.size_toArray, List.getElem?_toArray, List.getElem?_cons_zero, List.getElem?_cons_succ] at c0 c1 c2 c3
  have cg := (G.ext X).cell 2 (by omega) (by omega)
  have cg' : (w.alloc (.cells #[.int .u8 code, .int .u64 size, .slice ad hs.length ca, .string leaf] 70)).cell? ⟨0, 0, none⟩ = some (sv se 2) := cg
  have HX := Lib.hid X
  clear G hbl X cg h3
  have fin : ∀ (w' : World), Ext (w.alloc (.cells #[.int .u8 code, .int .u64 size, .slice ad hs.length ca, .string leaf] 70)) w' → ∃ v, Ending.returned (.tuple #[.string ⟨#[]⟩, sv se 2]) = .returned (.tuple #[.string (str []), v]) ∧ ErrIs se w' v (some (2, none)) ∧ Ext w w' := fun w' u => ⟨sv se 2, rfl, ⟨by omega, by omega, rfl⟩, HX.out.trans u⟩
  have HF := Lib.hid fin
  clear fin
  by_cases b5 : 5 < code
  · have d5 : (5 : Int) < code := by omega
    clear hb
    go_enter Tryz.func41, Tryz.ntmps41
    go_wp2_with fail
    go_quiet (fail)
    go_wp2_with fail
    exact bodyPost_ret (v := .tuple #[.string ⟨#[]⟩, sv se 2]) (by simp [results, Tryz.results41, go_sem]) rfl (HF.out _ (by first | exact Upd.refl _ _ | exact ext_drewN _ _))
  · have d5 : ¬ (5 : Int) < code := by omega
    have hb2 := hb.resolve_left b5
    obtain ⟨hn0, hr⟩ := hb2
    have d0 : ((code : Int) == 0) = false := by simp; omega
    have d0' : ((code : Int) != 0) = true := by simp; omega
    clear hb
    by_cases bs : size = 0
    · have ds : ((size : Int) != 0) = false := by simp; omega
      have hr2 := hr.resolve_left (by omega)
      clear hr bs
      by_cases bh : 0 < hs.length
      · have dh : (0 : Int) < hs.length := by omega
        clear hr2
        go_enter Tryz.func41, Tryz.ntmps41
        go_wp2_with fail
        go_quiet (fail)
        go_wp2_with fail
        exact bodyPost_ret (v := .tuple #[.string ⟨#[]⟩, sv se 2]) (by simp [results, Tryz.results41, go_sem]) rfl (HF.out _ (by first | exact Upd.refl _ _ | exact ext_drewN _ _))
      · have dh : ¬ (0 : Int) < hs.length := by omega
        have hl : leaf.toList.isEmpty = false := (empty_no leaf).2 (hr2.resolve_left bh)
        clear hr2
        go_enter Tryz.func41, Tryz.ntmps41
        go_wp2_with fail
        go_quiet (fail)
        go_wp2_with fail
        exact bodyPost_ret (v := .tuple #[.string ⟨#[]⟩, sv se 2]) (by simp [results, Tryz.results41, go_sem]) rfl (HF.out _ (by first | exact Upd.refl _ _ | exact ext_drewN _ _))
    · have ds : ((size : Int) != 0) = true := by simp; omega
      clear hr
      go_enter Tryz.func41, Tryz.ntmps41
      go_wp2_with fail
      go_quiet (fail)
      go_wp2_with fail
      exact bodyPost_ret (v := .tuple #[.string ⟨#[]⟩, sv se 2]) (by simp [results, Tryz.results41, go_sem]) rfl (HF.out _ (by first | exact Upd.refl _ _ | exact ext_drewN _ _))

/-- A struct or an array stored into a variable that is new. -/
theorem store_new {P : Program} {w : World} {ops : Array Oper} {rest : List Oper} {o : Oper} {a : Act} {Q : Exit → Act → World → Prop} (hgd : o.guard = none) (ty : TypeId) (x y : Operand) (ho : o.op = .store ty x y)
    (z : Array Value) (t : TypeId) (hx : a.eval x = .pointer (some ⟨w.heap.size, 0, none⟩)) (vs : List Value) (hy : a.eval y = .agg vs.toArray) (hi : (P.info? ty).map (·.size) = some vs.length) (hz : z.size = vs.length) (h1 : ∀ u ∈ vs, u.oneCell' = true)
    (h : wpList P ops Q rest (a.put o.dst undef) (w.alloc (.cells vs.toArray t))) : wpList P ops Q (o :: rest) a (w.alloc (.cells z t)) := by
  refine wpList_storeAgg hgd ty x y ho w.heap.size 0 hx vs hy hi z.toList t (blk_alloc w _) (by simp [hz]) h1 ?_
  rw [over_all _ _ (by simpa using hz), setRow_alloc]
  exact h
theorem hash_one (h : List UInt8) : ∀ u ∈ h.map u8v, u.oneCell' = true := fun u hu => by
  obtain ⟨c, _, rfl⟩ := List.mem_map.1 hu
  rfl
theorem hash_size32 (h : List UInt8) (hl : h.length = 32) : (Tryz.prog.info? 120).map (·.size) = some (h.map u8v).length := by rw [hash_size', List.length_map, hl]
theorem flat_take_len (hs : List (List UInt8)) (h : ∀ x ∈ hs, x.length = 32) (i : Nat) : (hs.take i).flatten.length ≤ 32 * hs.length := by
  rw [flat_len _ (fun x hx => h x (List.mem_of_mem_take hx)), List.length_take]; omega
theorem varB_len (n : Nat) : (varB n).length ≤ 10 := varN_len 10 n

/-- A code alone. -/
theorem encA_code {B : Nat} {se : Nat → Addr} {w : World} (G : Genv B se w) (a : AnsD) (ha : a.Ok) (ad : Option Addr) (ca : Nat) (hb : ¬ a.bad) (hc : a.code ≠ 0) :
    Calls Tryz.prog 41 #[.agg (ansCells a (.slice ad a.hs.length ca))] w fun e w' => ∃ v, e = .returned (.tuple #[.string (str (ansB a)), v]) ∧ ErrIs se w' v (ansE a) ∧ Ext w w' := by
  have e1 : ansB a = fixB 1 a.code := by unfold ansB; rw [if_neg hb, if_pos hc]
  have e2 : ansE a = none := by unfold ansE; rw [if_neg hb, if_pos hc]
  rw [e1, e2]
  clear e1 e2
  obtain ⟨code, size, hs, leaf⟩ := a
  obtain ⟨h1, h2, h3, h4, h5⟩ := ha
  simp only [ansCells, AnsD.bad] at hb hc h1 h2 h3 h4 h5 ⊢
  have b5 : ¬ 5 < code := fun h => hb (.inl h)
  have d5 : ¬ (5 : Int) < code := by omega
  have d0 : ((code : Int) == 0) = false := by simp; omega
  have d0' : ((code : Int) != 0) = true := by simp; omega
  obtain rfl : size = 0 := Decidable.byContradiction fun h => hb (.inr ⟨hc, .inl h⟩)
  obtain rfl : hs = [] := by
    cases hs with
    | nil => rfl
    | cons x t => exact absurd (.inr ⟨hc, .inr (.inl (by simp))⟩) hb
  obtain rfl : leaf = ⟨#[]⟩ := Classical.byContradiction fun h => hb (.inr ⟨hc, .inr (.inr h)⟩)
  clear hb h3 h4 h5 h2
  have hbl := blk_alloc w (.cells #[.int .u8 code, .int .u64 0, .slice ad 0 ca, .string ⟨#[]⟩] 70)
  have X := (Upd.refl none' w).alloc (.cells #[.int .u8 code, .int .u64 0, .slice ad 0 ca, .string ⟨#[]⟩] 70)
  have c0 := cell_of_blk hbl 0
  have c1 := cell_of_blk hbl 1
  have c2 := cell_of_blk hbl 2
  have c3 := cell_of_blk hbl 3
  simp only [List.size_toArray, List.getElem?_toArray, List.getElem?_cons_zero, List.getElem?_cons_succ] at c0 c1 c2 c3
  have N := own_new (G.ext X)
  rw [World.size_alloc] at N
  have HX := Lib.hid X
  have HB := Lib.hid hbl
  have HH := Lib.hid (show code / 2 ^ (8 * 1) = 0 by omega)
  clear G X hbl hc
  go_enter Tryz.func41, Tryz.ntmps41
  go_wp2_with fail
  refine N.mono ?_
  rintro e w1 ⟨rfl, O⟩
  have c0 := cell_of_blk (Ext.blk O.x HB.out) 0
  simp only [List.size_toArray, List.getElem?_toArray, List.getElem?_cons_zero, List.getElem?_cons_succ] at c0
  have C := O.fixed code 1 (by omega) (by omega) (by omega) (fun _ => HH.out) (by simp)
  have HO := Lib.hid O
  clear N O c1 c2 c3
  go_wp2_with fail
  refine C.mono ?_
  rintro e w2 ⟨rfl, O⟩
  have c0 := cell_of_blk (Ext.blk O.x HB.out) 0
  simp only [List.size_toArray, List.getElem?_toArray, List.getElem?_cons_zero, List.getElem?_cons_succ] at c0
  have W := whole_any O (by simp [fixB_len])
  rw [List.nil_append] at W
  have e3 : wholeB (fixB 1 code) = fixB 1 code := if_neg (by rw [fixB_len]; omega)
  have e4 : wholeE (fixB 1 code) = none := if_neg (by rw [fixB_len]; omega)
  rw [e3, e4] at W
  have HO := Lib.hid O
  clear O C e3 e4
  go_wp2_with fail
  refine W.mono ?_
  rintro e w3 ⟨v, rfl, hv, u⟩
  have HR : Hid (Ext w w3) := Lib.hid ((HX.out.trans (HO.out.x.mono (fun _ _ h => h))).trans (u.mono (fun _ _ h => h)))
  clear u W c0
  go_wp2_with fail
  exact bodyPost_ret (v := .tuple #[.string (str (fixB 1 code)), v]) (by simp [results, Tryz.results41, go_sem]) rfl ⟨v, rfl, hv, HR.out⟩

def pre3 (size n : Nat) : List UInt8 := fixB 1 0 ++ varB size ++ varB n
theorem pre3_len (size n : Nat) : (pre3 size n).length ≤ 21 := by
  unfold pre3
  have h1 := varB_len size
  have h2 := varB_len n
  simp only [List.length_append, fixB_len]; omega
theorem Own.later {n : Nat} {se : Nat → Addr} {w w1 w2 : World} {b : Nat} {xs : List UInt8} (h : Own n se w w1 b xs) (u : Ext w1 w2) : Own n se w w2 b xs := h.ext u

set_option maxRecDepth 8000 in
set_option maxHeartbeats 4000000 in
theorem encA_ok {B : Nat} {se : Nat → Addr} {w : World} (G : Genv B se w) (size : Nat) (hs : List (List UInt8)) (leaf : ByteArray) (ha : (AnsD.mk 0 size hs leaf).Ok) (ad : Option Addr) (ca : Nat) (hx : HashesAt w ad hs)
    (rb : List UInt8) (re : EV) (hlim : 65536 < leaf.size ∨ 1048576 < hs.length → rb = [] ∧ re = some (4, none)) (hok : ¬ (65536 < leaf.size ∨ 1048576 < hs.length) → rb = wholeB (AnsD.mk 0 size hs leaf).body ∧ re = wholeE (AnsD.mk 0 size hs leaf).body) :
    Calls Tryz.prog 41 #[.agg #[.int .u8 0, .int .u64 size, .slice ad hs.length ca, .string leaf]] w fun e w' => ∃ v, e = .returned (.tuple #[.string (str rb), v]) ∧ ErrIs se w' v re ∧ Ext w w' := by
  obtain ⟨_, h2, h3, h4, h5⟩ := ha
  simp only at h2 h3 h4 h5
  have hbl := blk_alloc w (.cells #[.int .u8 0, .int .u64 size, .slice ad hs.length ca, .string leaf] 70)
  have X := (Upd.refl none' w).alloc (.cells #[.int .u8 0, .int .u64 size, .slice ad hs.length ca, .string leaf] 70)
  have HXS := Lib.hid (HashesAt.later hx X)
  have c0 := cell_of_blk hbl 0
  have c1 := cell_of_blk hbl 1
  have c2 := cell_of_blk hbl 2
  have c3 := cell_of_blk hbl 3
  simp only [List.size_toArray, List.getElem?_toArray, List.getElem?_cons_zero, List.getElem?_cons_succ] at c0 c1 c2 c3
  have N := own_new (G.ext X)
  rw [World.size_alloc] at N
  have HX := Lib.hid X
  have HB := Lib.hid hbl
  have H3 := Lib.hid h3
  have HLIM := Lib.hid hlim
  have HOKK := Lib.hid hok
  clear G X hbl hx h3 hlim hok
  go_enter Tryz.func41, Tryz.ntmps41
  go_wp2_with fail
  refine N.mono ?_
  rintro e w1 ⟨rfl, O⟩
  have c0 := cell_of_blk (Ext.blk O.x HB.out) 0
  simp only [List.size_toArray, List.getElem?_toArray, List.getElem?_cons_zero, List.getElem?_cons_succ] at c0
  have C := O.fixed 0 1 (by omega) (by omega) (by omega) (fun _ => by omega) (by simp)
  clear N O c1 c2 c3
  go_wp2_with fail
  refine C.mono ?_
  rintro e w2 ⟨rfl, O⟩
  have HO := Lib.hid O
  have c0 := cell_of_blk (Ext.blk O.x HB.out) 0
  have c1 := cell_of_blk (Ext.blk O.x HB.out) 1
  have c2 := cell_of_blk (Ext.blk O.x HB.out) 2
  have c3 := cell_of_blk (Ext.blk O.x HB.out) 3
  simp only [List.size_toArray, List.getElem?_toArray, List.getElem?_cons_zero, List.getElem?_cons_succ] at c0 c1 c2 c3
  have cg := O.g.cell 4 (by omega) (by omega)
  have cg' : w2.cell? ⟨1, 0, none⟩ = some (sv se 4) := cg
  clear cg C
  have fin4 : Hid (∀ (w' : World), Ext w2 w' → ∃ v, Ending.returned (.tuple #[.string ⟨#[]⟩, sv se 4]) = .returned (.tuple #[.string (str []), v]) ∧ ErrIs se w' v (some (4, none)) ∧ Ext w w') := Lib.hid (fun w' u => ⟨sv se 4, rfl, ⟨by omega, by omega, rfl⟩, (HX.out.trans (HO.out.x.mono (fun _ _ h => h))).trans u⟩)
  by_cases hl : 65536 < leaf.size
  · obtain ⟨rfl, rfl⟩ := HLIM.out (Or.inl hl)
    have dl : (65536 : Int) < leaf.size := by omega
    clear O
    go_wp2_with fail
    go_quiet (fail)
    go_wp2_with fail
    exact bodyPost_ret (v := .tuple #[.string ⟨#[]⟩, sv se 4]) (by simp [results, Tryz.results41, go_sem]) rfl (fin4.out _ (by first | exact Upd.refl _ _ | exact ext_drewN _ _))
  · have dl : ¬ (65536 : Int) < leaf.size := by omega
    by_cases hm : 1048576 < hs.length
    · obtain ⟨rfl, rfl⟩ := HLIM.out (Or.inr hm)
      have dm : (1048576 : Int) < hs.length := by omega
      clear O
      go_wp2_with fail
      go_quiet (fail)
      go_wp2_with fail
      exact bodyPost_ret (v := .tuple #[.string ⟨#[]⟩, sv se 4]) (by simp [results, Tryz.results41, go_sem]) rfl (fin4.out _ (by first | exact Upd.refl _ _ | exact ext_drewN _ _))
    · have hn : ¬ (65536 < leaf.size ∨ 1048576 < hs.length) := fun h => h.elim hl hm
      obtain ⟨rfl, rfl⟩ := HOKK.out hn
      have dm : ¬ (1048576 : Int) < hs.length := by omega
      have C := O.var size h2 (by simp [fixB_len])
      have HN := Lib.hid hn
      clear O fin4 hn cg'
      go_wp2_with fail
      refine C.mono ?_
      rintro e w3 ⟨rfl, O⟩
      have c2 := cell_of_blk (Ext.blk O.x HB.out) 2
      simp only [List.size_toArray, List.getElem?_toArray, List.getElem?_cons_zero, List.getElem?_cons_succ] at c2
      have C := O.var hs.length (by omega) (by have := varB_len size; simp [fixB_len]; omega)
      rw [List.nil_append] at C
      have e3 : fixB 1 0 ++ varB size ++ varB hs.length = pre3 size hs.length := rfl
      rw [e3] at C
      clear O HO e3
      go_wp2_with fail
      refine C.mono ?_
      rintro e w4 ⟨rfl, O⟩
      have c2 := cell_of_blk (Ext.blk O.x HB.out) 2
      simp only [List.size_toArray, List.getElem?_toArray, List.getElem?_cons_zero, List.getElem?_cons_succ] at c2
      have HO := Lib.hid O
      clear O C
      go_wp2_with fail
      go_loopw [69] (fun iv wr => ∃ i : Nat, iv = .int .i64 i ∧ i ≤ hs.length ∧ Own (w.heap.size + 1) se (w.alloc (.cells #[.int .u8 0, .int .u64 size, .slice ad hs.length ca, .string leaf] 70)) wr (w.heap.size + 1) (pre3 size hs.length ++ (hs.take i).flatten)) (fun iv _ => hs.length - (intOf iv).toNat)
      case atStart => exact ⟨0, rfl, Nat.zero_le _, by simpa using HO.out⟩
      case round =>
        obtain ⟨i, rfl, hi, O⟩ := hrel
        have HO1 := Lib.hid O
        have hpl := pre3_len size hs.length
        have hfl := flat_take_len hs H3.out i
        clear O HO
        by_cases hlt : i < hs.length
        · obtain ⟨hh, b, o, hab, hc⟩ := (HXS.out.later HO1.out.x) i hs[i] (List.getElem?_eq_getElem hlt)
          subst hab
          generalize hhi : hs[i] = h at *
          have hgi : hs[i]? = some h := by rw [List.getElem?_eq_getElem hlt, hhi]
          have HFT := Lib.hid (flat_take hs i h hgi)
          have HCS := Lib.hid hc
          have HSZ := Lib.hid (hash_size32 h hh)
          have H1 := Lib.hid (hash_one h)
          have HZ := Lib.hid (show zero32.size = (h.map u8v).length by rw [List.length_map, hh]; rfl)
          have hb := blk_alloc wr (.cells (h.map u8v).toArray 120)
          have X2 := (Upd.refl none' wr).alloc (.cells (h.map u8v).toArray 120)
          have HL := Lib.hid (fun (j : Nat) (v : Value) (hv : (h.map u8v)[j]? = some v) => show World.cell? _ ⟨wr.heap.size, 0 + j, none⟩ = some v from by rw [cell_of_blk hb]; simpa using hv)
          have HC := Lib.hid ((HO1.out.ext X2).hash h hh (by rw [List.length_append]; omega))
          clear hc hb X2 hhi hgi hpl hfl
          go_wp2_with (first
            | (refine store_new rfl 120 _ _ rfl _ _ rfl (h.map u8v) rfl HSZ.out HZ.out H1.out ?_)
            | (refine wpList_loadAgg rfl 120 _ rfl b (o + i * 32) rfl (h.map u8v) Tryz.underlying120 rfl HSZ.out (fun j v hv => by have := HCS.out j v hv; rw [← Nat.add_assoc] at this; exact this) ?_)
            | (refine wpList_loadAgg rfl 120 _ rfl wr.heap.size 0 rfl (h.map u8v) Tryz.underlying120 rfl HSZ.out HL.out ?_))
          refine HC.out.mono ?_
          rintro e w5 ⟨rfl, O⟩
          rw [List.append_assoc, ← HFT.out] at O
          have HO2 := Lib.hid O
          clear O HC HL
          go_wp2_with fail
          exact ⟨⟨i + 1, by simp, by omega, HO2.out⟩, by simp [intOf]; omega⟩
        · obtain rfl : i = hs.length := by omega
          have c3 := cell_of_blk (Ext.blk HO1.out.x HB.out) 3
          simp only [List.size_toArray, List.getElem?_toArray, List.getElem?_cons_zero, List.getElem?_cons_succ] at c3
          have O := HO1.out
          rw [List.take_length] at O
          rw [List.take_length] at hfl
          have C := O.text leaf (by rw [List.length_append]; omega)
          have HLEN := Lib.hid (show (pre3 size hs.length ++ hs.flatten ++ (varB leaf.size ++ leaf.data.toList)).length ≤ 9223372036854775807 by
            have h1 := varB_len leaf.size
            have h2 : leaf.data.toList.length = leaf.size := by rw [Array.length_toList]; rfl
            simp only [List.length_append]; omega)
          clear O HO1 hpl hfl
          go_wp2_with fail
          refine C.mono ?_
          rintro e w5 ⟨rfl, O⟩
          have W := whole_any O HLEN.out
          have eb : pre3 size hs.length ++ hs.flatten ++ (varB leaf.size ++ leaf.data.toList) = (AnsD.mk 0 size hs leaf).body := rfl
          rw [eb] at W
          have HO := Lib.hid O
          clear O C eb c3
          go_wp2_with fail
          refine W.mono ?_
          rintro e w6 ⟨v, rfl, hv, u⟩
          have HR : Hid (Ext w w6) := Lib.hid ((HX.out.trans (HO.out.x.mono (fun _ _ h => h))).trans (u.mono (fun _ _ h => h)))
          clear u W
          go_wp2_with fail
          exact bodyPost_ret (v := .tuple #[.string (str (wholeB (AnsD.mk 0 size hs leaf).body)), v]) (by simp [results, Tryz.results41, go_sem]) rfl ⟨v, rfl, hv, HR.out⟩

/-- wire.EncodeAnswer, of any answer. -/
theorem encA_any {B : Nat} {se : Nat → Addr} {w : World} (G : Genv B se w) (a : AnsD) (ha : a.Ok) (ad : Option Addr) (ca : Nat) (hx : HashesAt w ad a.hs) :
    Calls Tryz.prog 41 #[.agg (ansCells a (.slice ad a.hs.length ca))] w fun e w' => ∃ v, e = .returned (.tuple #[.string (str (ansB a)), v]) ∧ ErrIs se w' v (ansE a) ∧ Ext w w' := by
  by_cases hb : a.bad
  · exact encA_bad G a ha ad ca hb
  · by_cases hc : a.code = 0
    · obtain ⟨code, size, hs, leaf⟩ := a
      obtain rfl : code = 0 := hc
      refine encA_ok G size hs leaf ha ad ca hx _ _ (fun hl => ?_) (fun hl => ?_)
      · exact ⟨by unfold ansB; rw [if_neg hb, if_neg (show ¬ (AnsD.mk 0 size hs leaf).code ≠ 0 from fun h => h rfl), if_pos hl], by unfold ansE; rw [if_neg hb, if_neg (show ¬ (AnsD.mk 0 size hs leaf).code ≠ 0 from fun h => h rfl), if_pos hl]⟩
      · exact ⟨by unfold ansB; rw [if_neg hb, if_neg (show ¬ (AnsD.mk 0 size hs leaf).code ≠ 0 from fun h => h rfl), if_neg hl], by unfold ansE; rw [if_neg hb, if_neg (show ¬ (AnsD.mk 0 size hs leaf).code ≠ 0 from fun h => h rfl), if_neg hl]⟩
    · exact encA_code G a ha ad ca hb hc
end Go.Proofs.YtljnhelnmnomoaaGreatDoor
