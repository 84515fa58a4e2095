/- The walk of CodecStays. -/
import Derived.Test.YtkabomkikbdigaaDoorTook2
import Derived.Test.YtkabomkikbdigaaDoorEqual
import Derived.Test.YtkabomkikbdigaaDoorRdPlain
namespace Go.Proofs.YtkabomkikbdigaaDoor
open Go.RowKit Go.Lib

theorem OwnR.wf {n : Nat} {se : Nat → Addr} {w w1 : World} {b : Nat} {x : RdD} (h : OwnR n se w w1 b x) : x.f = none → x.pos ≤ x.s.size := fun hf => by
  obtain ⟨fv, a, _, h1, h2, _, _⟩ := h.r.ex
  rw [← h2 hf]; exact h1
theorem thing_of_row {w : World} {a : Option Addr} {xs : List ThingD} (h : ThingsAt w a xs) {i : Nat} (hi : i < xs.length) :
    ∃ x b o, xs[i]? = some x ∧ x.Ok ∧ a = some ⟨b, o, none⟩ ∧ ∀ j v, (thingCells x)[j]? = some v → w.cell? ⟨b, o + i * 37 + j, none⟩ = some v := by
  obtain ⟨h1, b, o, h2, _, h3⟩ := h i xs[i] (List.getElem?_eq_getElem hi)
  exact ⟨xs[i], b, o, List.getElem?_eq_getElem hi, h1, h2, h3⟩
/-- A struct stored into a variable that is new. -/
theorem wpList_storeNew {P : Program} {w : World} {ops : Array Oper} {rest : List Oper} {o : Oper} {a : Act} {Q : Exit → Act → World → Prop} (hgd : o.guard = none) (ty : TypeId) (x y : Operand) (ho : o.op = .store ty x y)
    (z : Array Value) (t : TypeId) (hx : a.eval x = .pointer (some ⟨w.heap.size, 0, none⟩)) (vs : List Value) (hy : a.eval y = .agg vs.toArray) (hi : (P.info? ty).map (·.size) = some vs.length) (hz : z.size = vs.length) (h1 : ∀ u ∈ vs, u.oneCell' = true)
    (h : wpList P ops Q rest (a.put o.dst undef) (w.alloc (.cells vs.toArray t))) : wpList P ops Q (o :: rest) a (w.alloc (.cells z t)) := by
  refine wpList_storeAgg hgd ty x y ho w.heap.size 0 hx vs hy hi z.toList t (blk_alloc w _) (by simp [hz]) h1 ?_
  rw [over_all _ _ (by simpa using hz), setRow_alloc]
  exact h
theorem ErrIs.some_iface {se : Nat → Addr} {w : World} {v : Value} {e : EV} (h : ErrIs se w v e) (he : e ≠ none) : ∃ t x, v = .iface t x := by
  match e, h with
  | none, _ => exact absurd rfl he
  | some (_, none), ⟨_, _, e⟩ => exact ⟨_, _, e⟩
  | some (_, some _), ⟨_, _, _, e, _⟩ => exact ⟨_, _, e⟩
theorem OwnR.other {n : Nat} {se : Nat → Addr} {w w1 : World} {b : Nat} {x : RdD} (h : OwnR n se w w1 b x) {v : Value} {e : EV} (hv : ErrIs se w1 v e) : ErrIn v (fun p => ¬ one b p) := fun p hp hb => by
  obtain ⟨fv, a, hr, _⟩ := h.r.ex
  have hb : p = b := hb
  subst hb
  match e, hv with
  | none, h => rw [show v = .nilIface from h] at hp; cases hp
  | some (_, none), ⟨_, _, e⟩ => rw [e] at hp; simp [sv] at hp
  | some (_, some _), ⟨_, _, _, e, hq⟩ =>
    rw [e] at hp
    simp at hp
    subst hp
    rw [hr] at hq
    simp at hq
theorem OwnR.took' {n : Nat} {se : Nat → Addr} {w w1 : World} {b : Nat} {x : RdD} (h : OwnR n se w w1 b x) (t : ThingD) (ht : t.Ok) :
    Calls Tryd.prog 31 #[.pointer (some ⟨b, 0, none⟩), .agg (thingCells t).toArray] w1 fun e w' => e = .returned (.agg (thingCells (tookD x t).1).toArray) ∧ OwnR n se w w' b (tookD x t).2 ∧ ∀ v e, ErrIs se w1 v e → ErrIs se w' v e :=
  (took_ok h.g h.r t ht).mono (by rintro e w' ⟨rfl, a, u⟩; exact ⟨rfl, h.step a u, fun v e hv => hv.upd u (h.other hv)⟩)
theorem OwnR.left' {n : Nat} {se : Nat → Addr} {w w1 : World} {b : Nat} {x : RdD} (h : OwnR n se w w1 b x) : Calls Tryd.prog 29 #[.pointer (some ⟨b, 0, none⟩)] w1 fun e w' => e = .returned (.int .i64 x.left) ∧ OwnR n se w w' b x ∧ Ext w1 w' :=
  (left_ok h.r).mono (by rintro e w' ⟨rfl, u⟩; exact ⟨rfl, h.ext u, u⟩)
theorem OwnR.end' {n : Nat} {se : Nat → Addr} {w w1 : World} {b : Nat} {x : RdD} (h : OwnR n se w w1 b x) : Calls Tryd.prog 27 #[.pointer (some ⟨b, 0, none⟩)] w1 fun e w' => ∃ v, e = .returned v ∧ ErrIs se w' v x.fin ∧ OwnR n se w w' b x ∧ Ext w1 w' :=
  (end_ok h.g h.r).mono (by rintro e w' ⟨v, rfl, hv, u⟩; exact ⟨v, rfl, hv, h.ext u, u⟩)
theorem sameB_arg : sameB (some (2, none)) 2 (if (2 : Int) = 0 then 0 else -1) = true := by rfl
set_option maxRecDepth 8000 in
set_option maxHeartbeats 4000000 in
/-- CodecStays. -/
theorem stays_any {B : Nat} {se : Nat → Addr} {w : World} (G : Genv B se w) (s : ByteArray) (hs : s.size ≤ 9223372036854775807) {a c : Option Addr} {xs ys : List ThingD} (ca cc : Nat) (hx : ThingsAt w a xs) (hy : ThingsAt w c ys)
    (hxl : xs.length ≤ 9223372036854775807) (hyl : ys.length ≤ 9223372036854775807) :
    Calls Tryd.prog 7 #[.string s, .slice a xs.length ca, .slice c ys.length cc] w fun e w' => e = .returned (.bool true) ∧ Ext w w' := by
  have HG := Lib.hid G
  have HXS := Lib.hid hx
  have HYS := Lib.hid hy
  clear G hx hy
  go_enter Tryd.func7, Tryd.ntmps7
  go_wp2_with fail
  refine (lives_any HG.out).mono ?_
  rintro e w1 ⟨rfl, hX⟩
  have HX := Lib.hid hX
  clear hX
  go_wp2_with fail
  refine (ownR_new (HG.out.ext HX.out) s hs).mono ?_
  rintro e w2 ⟨rfl, O⟩
  have HO := Lib.hid O
  clear O
  have L0 : (⟨s, 0, none⟩ : RdD).left = (s.size : Int) := by simp [RdD.left]
  generalize w1.heap.size = b at HO ⊢
  go_wp2_with fail
  go_loopw [8, 9] (fun bv iv wr => ∃ (i : Nat) (x : RdD), bv = .int .i64 x.left ∧ iv = .int .i64 i ∧ i ≤ xs.length ∧ OwnR b se w1 wr b x) (fun _ iv _ => xs.length - (intOf iv).toNat)
  case atStart => exact ⟨0, ⟨s, 0, none⟩, by rw [L0], rfl, Nat.zero_le _, HO.out⟩
  case round =>
    obtain ⟨i, x, rfl, rfl, hi, O⟩ := hrel
    have HO1 := Lib.hid O
    clear O
    by_cases hlt : i < xs.length
    · obtain ⟨t, tb, to, ht, hok, rfl, hc⟩ := thing_of_row (HXS.out.later (HX.out.thenExt HO1.out.e)) hlt
      have HSZ := Lib.hid (thing_size' t hok.h)
      have HCS := Lib.hid hc
      have C := HO1.out.took t hok
      have hle := left_le (took_le x t) HO1.out.wf
      clear hc ht hok
      generalize (tookD x t).2 = y at C hle
      generalize (tookD x t).1 = r at C
      have t1 : decide (x.left < y.left) = false := by simp; omega
      have HC := Lib.hid C
      clear C hle
      go_wp2_with (refine wpList_loadAgg rfl 36 _ rfl tb (to + i * 37) rfl (thingCells t) Tryd.underlying36 rfl HSZ.out HCS.out ?_)
      refine HC.out.mono ?_
      rintro e w4 ⟨rfl, O⟩
      have HO2 := Lib.hid O
      clear O HC HO1 HSZ HCS
      go_wp2_with fail
      refine HO2.out.left.mono ?_
      rintro e w5 ⟨rfl, O⟩
      have HO3 := Lib.hid O
      clear O
      go_wp2_with fail
      refine HO3.out.left.mono ?_
      rintro e w6 ⟨rfl, O⟩
      have HO4 := Lib.hid O
      clear O HO2
      go_wp2_with fail
      exact ⟨⟨i + 1, y, rfl, by simp, hlt, HO4.out⟩, by simp [intOf]; omega⟩
    · clear HXS hxl
      go_wp2_with fail
      refine HO1.out.end.mono ?_
      rintro e w3 ⟨v0, rfl, hv0, O⟩
      have HO2 := Lib.hid O
      have HV0 := Lib.hid hv0
      clear O HO1 hv0
      go_wp2_with fail
      refine (HO2.out.fixed 0).mono ?_
      rw [fixed_zero]
      rintro e w4 ⟨rfl, O⟩
      have HO3 := Lib.hid O
      clear O HO2
      go_wp2_with fail
      refine HO3.out.end.mono ?_
      rintro e w5 ⟨v1, rfl, hv1, O⟩
      have HO4 := Lib.hid O
      have hf : (x.fail (some (2, none))).f ≠ none := fail_is x _ (by simp)
      rw [fin_fault _ hf] at hv1
      obtain ⟨t1, x1, hv1e⟩ := hv1.some_iface hf
      have HV1 := Lib.hid hv1
      clear O HO3 hv1
      subst hv1e
      have L1 := left_fault _ hf
      have key : (v0 = .nilIface ∧ (x.fail (some (2, none))).f = some (2, none)) ∨ ∃ t0 x0, v0 = .iface t0 x0 := by
        by_cases h : x.fin = none
        · left
          have := HV0.out
          rw [h] at this
          exact ⟨this, fail_new _ _ (fin_none x h)⟩
        · exact .inr (HV0.out.some_iface h)
      clear HV0
      generalize x.fail (some (2, none)) = y at HO4 hf HV1 L1 key ⊢
      go_wp2_with fail
      refine HO4.out.left'.mono ?_
      rw [L1]
      rintro e w6 ⟨rfl, O, u⟩
      have HO5 := Lib.hid O
      have HV2 := Lib.hid (HV1.out.ext u)
      clear O u HO4 HV1
      go_wp2_with fail
      refine (is2_any HO5.out.g HV2.out 2).mono ?_
      rintro e w7 ⟨rfl, u⟩
      have HO6 := Lib.hid (HO5.out.ext u)
      have HV3 := Lib.hid (HV2.out.ext u)
      clear u HO5 HV2
      have test : (sameB y.f 2 (if (2 : Int) = 0 then 0 else -1) = true) ∨ (sameB y.f 2 (if (2 : Int) = 0 then 0 else -1) = false ∧ ∃ t0 x0, v0 = .iface t0 x0) := by
        rcases key with ⟨_, h⟩ | h
        · left; rw [h]; exact sameB_arg
        · cases hb : sameB y.f 2 (if (2 : Int) = 0 then 0 else -1)
          · exact .inr ⟨rfl, h⟩
          · exact .inl rfl
      clear key
      generalize sameB y.f 2 (if (2 : Int) = 0 then 0 else -1) = bb at test ⊢
      have step : (bb = true) ∨ (bb = false ∧ ∃ t0 x0, v0 = .iface t0 x0) := test
      clear test
      rcases step with rfl | ⟨rfl, t0, x0, rfl⟩
      all_goals
        go_wp2_with fail
        go_loopw [12] (fun iv wr => ∃ i : Nat, iv = .int .i64 i ∧ i ≤ ys.length ∧ OwnR b se w1 wr b y ∧ ErrIs se wr (.iface t1 x1) y.f) (fun iv _ => ys.length - (intOf iv).toNat)
        case atStart => exact ⟨0, rfl, Nat.zero_le _, HO6.out, HV3.out⟩
        case round =>
          clear HO6 HV3
          obtain ⟨j, rfl, hj, O, hv⟩ := hrel
          have HR := Lib.hid O
          have HV := Lib.hid hv
          clear O hv
          by_cases hlt : j < ys.length
          · obtain ⟨t, tb, to, ht, hok, rfl, hc⟩ := thing_of_row (HYS.out.later (HX.out.thenExt HR.out.e)) hlt
            have HSZ := Lib.hid (thing_size' t hok.h)
            have HCS := Lib.hid hc
            have C := HR.out.took' t hok
            rw [took_fault y t hf] at C
            have HB := Lib.hid (bare_ok (t.kind % 4) (if t.kind % 4 = 0 then t.wd else 0) (by omega) (by omega) (by have := hok.wd1; split <;> omega) (by have := hok.wd2; split <;> omega))
            clear hc ht hok
            have HC := Lib.hid C
            clear C
            generalize hkk : t.kind % 4 = kk at HC HB
            generalize (if kk = 0 then t.wd else 0) = ww at HC HB
            clear hkk
            go_wp2_with (refine wpList_loadAgg rfl 36 _ rfl tb (to + j * 37) rfl (thingCells t) Tryd.underlying36 rfl HSZ.out HCS.out ?_)
            refine HC.out.mono ?_
            rintro e w8 ⟨rfl, O, k⟩
            have hb := blk_alloc w8 (.cells (thingCells (bare kk ww)).toArray 36)
            obtain ⟨c0, c1, c2, c3, c4, c5⟩ := thing_cells hb
            have X8 := (Upd.refl none' w8).alloc (.cells (thingCells (bare kk ww)).toArray 36)
            have HR2 := Lib.hid (O.ext X8)
            have HV4 := Lib.hid ((k _ _ HV.out).ext X8)
            have HL := Lib.hid (fun (j : Nat) (v : Value) (hv : (thingCells (bare kk ww))[j]? = some v) => show World.cell? _ ⟨w8.heap.size, 0 + j, none⟩ = some v from by rw [cell_of_blk hb]; simpa using hv)
            have HSZ2 := Lib.hid (thing_size' (bare kk ww) rfl)
            have H1 := Lib.hid (one_cells (bare kk ww))
            have HSM := Lib.hid (fun w => thing_same (bare kk ww) HB.out w)
            have HZ := Lib.hid (show zero37.size = (thingCells (bare kk ww)).length by rw [thingCells_len _ rfl]; rfl)
            clear O k HC HSZ HCS HR HV hb X8 c0 c2 c4 c5 HB
            go_wp2_with (first
              | (refine wpList_storeNew rfl 36 _ _ rfl _ _ rfl (thingCells (bare kk ww)) rfl HSZ2.out HZ.out H1.out ?_)
              | (refine wpList_loadAgg rfl 36 _ rfl w8.heap.size 0 rfl (thingCells (bare kk ww)) Tryd.underlying36 rfl HSZ2.out HL.out ?_)
              | (refine wpList_neqAgg rfl 36 _ _ _ rfl (thingCells (bare kk ww)).toArray (thingCells (bare kk ww)).toArray rfl rfl guard_thing (HSM.out _) ?_))
            refine HR2.out.left'.mono ?_
            rw [L1]
            rintro e w9 ⟨rfl, O, u⟩
            have HR3 := Lib.hid O
            have HV5 := Lib.hid (HV4.out.ext u)
            clear O u HR2 HV4 c1 c3 HL HSZ2 H1 HSM HZ
            go_wp2_with fail
            refine HR3.out.end'.mono ?_
            rintro e w10 ⟨v2, rfl, hv2, O, u⟩
            rw [fin_fault _ hf] at hv2
            obtain ⟨t2, x2, rfl⟩ := hv2.some_iface hf
            have HR4 := Lib.hid O
            have HV6 := Lib.hid (HV5.out.ext u)
            clear O u HR3 HV5 hv2
            go_wp2_with fail
            exact ⟨⟨j + 1, by simp, hlt, HR4.out, HV6.out⟩, by simp [intOf]; omega⟩
          · go_wp2_with fail
            refine (at_any HR.out.g HV.out).mono ?_
            rintro e w8 ⟨rfl, u⟩
            have HR2 := Lib.hid (HR.out.ext u)
            have HV2 := Lib.hid (HV.out.ext u)
            clear HR HV u
            go_wp2_with fail
            refine HR2.out.end'.mono ?_
            rintro e w9 ⟨v2, rfl, hv2, O, u⟩
            rw [fin_fault _ hf] at hv2
            have HR3 := Lib.hid O
            have HV3 := Lib.hid (HV2.out.ext u)
            have HW := Lib.hid hv2
            clear O u HR2 HV2 hv2
            go_wp2_with fail
            refine (at_any HR3.out.g HW.out).mono ?_
            rintro e w10 ⟨rfl, u⟩
            have HR4 := Lib.hid (HR3.out.ext u)
            have HV4 := Lib.hid (HV3.out.ext u)
            clear HR3 HV3 u HW
            go_wp2_with fail
            refine HR4.out.end'.mono ?_
            rintro e w11 ⟨v3, rfl, hv3, O, u⟩
            rw [fin_fault _ hf] at hv3
            have HR5 := Lib.hid O
            have HV5 := Lib.hid (HV4.out.ext u)
            have HW := Lib.hid hv3
            clear O u HR4 HV4 hv3
            go_wp2_with fail
            refine (code_any HR5.out.g HW.out).mono ?_
            rintro e w12 ⟨rfl, u⟩
            have HR6 := Lib.hid (HR5.out.ext u)
            have HV6 := Lib.hid (HV5.out.ext u)
            clear HR5 HV5 u HW
            go_wp2_with fail
            refine (code_any HR6.out.g HV6.out).mono ?_
            rintro e w13 ⟨rfl, u⟩
            have A := HX.out.thenExt ((HR6.out.ext u).e)
            clear HR6 HV6 u
            go_wp2_with fail
            go_ret
            exact ⟨rfl, A⟩
end Go.Proofs.YtkabomkikbdigaaDoor
