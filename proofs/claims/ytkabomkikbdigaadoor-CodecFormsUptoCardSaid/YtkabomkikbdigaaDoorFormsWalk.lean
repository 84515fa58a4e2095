/- The walk of CodecForms. -/
import Derived.Test.YtkabomkikbdigaaDoorPair
import Derived.Test.YtkabomkikbdigaaDoorForms2
namespace Go.Proofs.YtkabomkikbdigaaDoor
open Go.RowKit Go.Lib

/-- What the loop keeps: what is written is what was read, as long as there is no fault. -/
structure FormsAt (s : ByteArray) (i : Nat) (x : RdD) (xs : List UInt8) : Prop where
  src : x.s = s
  same : x.f = none → x.pos ≤ s.size ∧ xs = s.data.toList.take x.pos
  len : xs.length ≤ s.size + 32 * i
theorem FormsAt.start (s : ByteArray) : FormsAt s 0 ⟨s, 0, none⟩ [] := ⟨rfl, fun _ => ⟨Nat.zero_le _, by simp⟩, by simp⟩
theorem FormsAt.step {s : ByteArray} {i : Nat} {x : RdD} {xs : List UInt8} (h : FormsAt s i x xs) (t : ThingD) (hr : (tookD x t).1.Ok) : FormsAt s (i + 1) (tookD x t).2 (xs ++ formB (tookD x t).1) := by
  have hs := (took_le x t).s.trans h.src
  by_cases hf : (tookD x t).2.f = none
  · obtain ⟨_, e2, e3⟩ := took_form hf
    obtain ⟨e4, e5⟩ := h.same ((took_le x t).fwd hf).1
    rw [h.src] at e2 e3
    have e6 : xs ++ formB (tookD x t).1 = s.data.toList.take (tookD x t).2.pos := by rw [e3, e5]
    refine ⟨hs, fun _ => ⟨e2, e6⟩, ?_⟩
    rw [e6, List.length_take]
    have : s.data.toList.length = s.size := by rw [Array.length_toList]; rfl
    omega
  · have e1 := formB_len (tookD x t).1 hr
    rw [took_short hf] at e1
    have := h.len
    exact ⟨hs, fun e => absurd e hf, by rw [List.length_append]; omega⟩
theorem FormsAt.done {s : ByteArray} {i : Nat} {x : RdD} {xs : List UInt8} (h : FormsAt s i x xs) (hf : x.fin = none) : str xs = s := by
  have h0 := fin_none x hf
  obtain ⟨e1, e2⟩ := h.same h0
  have e3 : ¬ x.pos < x.s.size := by
    intro hlt
    unfold RdD.fin at hf
    rw [if_pos ⟨h0, hlt⟩] at hf
    cases hf
  rw [h.src] at e3
  have e4 : s.data.toList.length = s.size := by rw [Array.length_toList]; rfl
  have e5 : s.data.toList.take x.pos = s.data.toList := List.take_of_length_le (by omega)
  rw [e2, e5]
set_option maxRecDepth 8000 in
set_option maxHeartbeats 4000000 in
/-- CodecForms. -/
theorem forms_any {B : Nat} {se : Nat → Addr} {w : World} (G : Genv B se w) (s : ByteArray) {a : Option Addr} {ts : List ThingD} (ca : Nat) (hx : ThingsAt w a ts) (hb : s.size + 39 * ts.length ≤ 1048576) :
    Calls Tryd.prog 9 #[.string s, .slice a ts.length ca] w fun e w' => e = .returned (.bool true) ∧ Ext w w' := by
  have HG := Lib.hid G
  have HXS := Lib.hid hx
  have hxl : ts.length ≤ 9223372036854775807 := by omega
  have hs : s.size ≤ 9223372036854775807 := by omega
  have HB := Lib.hid hb
  clear G hx hb
  go_enter Tryd.func9, Tryd.ntmps9
  go_wp2_with fail
  refine (lives_any HG.out).mono ?_
  rintro e w1 ⟨rfl, hX⟩
  have HX := Lib.hid hX
  clear hX
  go_wp2_with fail
  refine (ownR_new (HG.out.ext HX.out) s hs).mono ?_
  rintro e w2 ⟨rfl, O⟩
  have HO := Lib.hid O
  clear O
  generalize w1.heap.size = rb at HO ⊢
  go_wp2_with fail
  refine (pair_new HO.out).mono ?_
  rintro e w3 ⟨rfl, O⟩
  have HP := Lib.hid O
  clear O HO
  generalize w2.heap.size = wb at HP ⊢
  go_wp2_with fail
  go_loopw [7] (fun iv wr => ∃ (i : Nat) (x : RdD) (xs : List UInt8), iv = .int .i64 i ∧ i ≤ ts.length ∧ Pair rb se w1 wr rb x wb xs ∧ FormsAt s i x xs) (fun iv _ => ts.length - (intOf iv).toNat)
  case atStart => exact ⟨0, ⟨s, 0, none⟩, [], rfl, Nat.zero_le _, HP.out, FormsAt.start s⟩
  case round =>
    obtain ⟨i, x, xs, rfl, hi, O, F⟩ := hrel
    have HP1 := Lib.hid O
    have HF := Lib.hid F
    clear O F HP
    by_cases hlt : i < ts.length
    · obtain ⟨t, tb, to, ht, hok, rfl, hc⟩ := thing_of_row (HXS.out.later (HX.out.thenExt HP1.out.e)) hlt
      have HSZ := Lib.hid (thing_size' t hok.h)
      have HCS := Lib.hid hc
      have C := HP1.out.took t hok
      have hr := took_okD x t hok HP1.out.wf.2
      have F2 := HF.out.step t hr
      have tl := took_tlen x t
      rw [HF.out.src] at tl
      have key : formE (tookD x t).1 = none ∨ (tookD x t).2.f ≠ none := by
        by_cases hf : (tookD x t).2.f = none
        · exact .inl (took_form hf).1
        · exact .inr hf
      clear hc ht hok
      generalize (tookD x t).2 = y at C F2 key
      generalize (tookD x t).1 = r at C F2 key hr tl
      have HC := Lib.hid C
      have HR := Lib.hid hr
      have HF2 := Lib.hid F2
      have hlen : xs.length + 1048676 ≤ 1099511627776 := by have := HF.out.len; have := HB.out; omega
      have htl : r.t.size ≤ 1048576 := by have := HB.out; omega
      clear C F2 hr HF tl
      go_wp2_with (refine wpList_loadAgg rfl 36 _ rfl tb (to + i * 37) rfl (thingCells t) Tryd.underlying36 rfl HSZ.out HCS.out ?_)
      refine HC.out.mono ?_
      rintro e w4 ⟨rfl, O⟩
      have hb := blk_alloc w4 (.cells (thingCells r).toArray 36)
      have X4 := (Upd.refl none' w4).alloc (.cells (thingCells r).toArray 36)
      have HP2 := Lib.hid (O.ext X4)
      have HL := Lib.hid (fun (j : Nat) (v : Value) (hv : (thingCells r)[j]? = some v) => show World.cell? _ ⟨w4.heap.size, 0 + j, none⟩ = some v from by rw [cell_of_blk hb]; simpa using hv)
      have HSZ2 := Lib.hid (thing_size' r HR.out.h)
      have H1 := Lib.hid (one_cells r)
      have HZ := Lib.hid (show zero37.size = (thingCells r).length by rw [thingCells_len _ HR.out.h]; rfl)
      have C2 := HP2.out.put r HR.out htl hlen
      have HC2 := Lib.hid C2
      clear O HC HP1 HSZ HCS hb X4 HP2 C2
      go_wp2_with (first
        | (refine wpList_storeNew rfl 36 _ _ rfl _ _ rfl (thingCells r) rfl HSZ2.out HZ.out H1.out ?_)
        | (refine wpList_loadAgg rfl 36 _ rfl w4.heap.size 0 rfl (thingCells r) Tryd.underlying36 rfl HSZ2.out HL.out ?_))
      refine HC2.out.mono ?_
      rintro e w5 ⟨v, rfl, hv, O⟩
      have HP3 := Lib.hid O
      clear O HC2 HL HSZ2 H1 HZ
      have key2 : v = .nilIface ∨ (y.f ≠ none ∧ ∃ t x, v = .iface t x) := by
        by_cases he : formE r = none
        · rw [he] at hv; exact .inl hv
        · exact .inr ⟨key.resolve_left he, hv.some_iface he⟩
      clear key hv
      rcases key2 with rfl | ⟨hf, t1, x1, rfl⟩
      · go_wp2_with fail
        exact ⟨⟨i + 1, y, xs ++ formB r, by simp, hlt, HP3.out, HF2.out⟩, by simp [intOf]; omega⟩
      · go_wp2_with fail
        refine HP3.out.end.mono ?_
        rintro e w6 ⟨v2, rfl, hv2, O⟩
        rw [fin_fault _ hf] at hv2
        obtain ⟨t2, x2, rfl⟩ := hv2.some_iface hf
        have HP4 := Lib.hid O
        clear O HP3 hv2
        go_wp2_with fail
        exact ⟨⟨i + 1, y, xs ++ formB r, by simp, hlt, HP4.out, HF2.out⟩, by simp [intOf]; omega⟩
    · go_wp2_with fail
      refine HP1.out.end.mono ?_
      rintro e w4 ⟨v, rfl, hv, O⟩
      have HP2 := Lib.hid O
      clear O HP1
      by_cases hf : x.fin = none
      · have hd := HF.out.done hf
        rw [hf] at hv
        obtain rfl : v = .nilIface := hv
        go_wp2_with fail
        refine HP2.out.done.mono ?_
        rw [hd]
        rintro e w5 ⟨rfl, rfl⟩
        have A := HX.out.thenExt HP2.out.e
        go_wp2_with fail
        go_ret
        exact ⟨by first | rfl | simp, A⟩
      · obtain ⟨t1, x1, rfl⟩ := hv.some_iface hf
        have A := HX.out.thenExt HP2.out.e
        go_wp2_with fail
        go_ret
        exact ⟨rfl, A⟩
end Go.Proofs.YtkabomkikbdigaaDoor
