/- The walks of CodecBack and CodecCuts. -/
import Derived.Test.YtkabomkikbdigaaDoorTaken2
import Derived.Test.YtkabomkikbdigaaDoorBack
namespace Go.Proofs.YtkabomkikbdigaaDoor
open Go.RowKit Go.Lib

theorem OwnR.tookU {n : Nat} {se : Nat → Addr} {w w1 : World} {b : Nat} {x : RdD} (h : OwnR n se w w1 b x) (t : ThingD) (ht : t.Ok) :
    Calls Tryd.prog 31 #[.pointer (some ⟨b, 0, none⟩), .agg (thingCells t).toArray] w1 fun e w' => e = .returned (.agg (thingCells (tookD x t).1).toArray) ∧ OwnR n se w w' b (tookD x t).2 ∧ Upd (one b) w1 w' :=
  (took_ok h.g h.r t ht).mono (by rintro e w' ⟨rfl, a, u⟩; exact ⟨rfl, h.step a u, u⟩)
/-- Where the bytes of the first i of a row end. -/
def posOf (l : List ThingD) (i : Nat) : Nat := ((l.take i).flatMap formB).length
theorem posOf_succ (l : List ThingD) (i : Nat) (u : ThingD) (h : l[i]? = some u) : posOf l (i + 1) = posOf l i + (formB u).length := by
  unfold posOf
  rw [List.take_add_one, h]
  simp
theorem posOf_le (l : List ThingD) (i : Nat) : posOf l i ≤ (l.flatMap formB).length := by
  unfold posOf
  have : l.flatMap formB = (l.take i).flatMap formB ++ (l.drop i).flatMap formB := by
    rw [← List.flatMap_append, List.take_append_drop]
  rw [this, List.length_append]; omega
theorem drop_pos (l : List ThingD) (i : Nat) (u : ThingD) (h : l[i]? = some u) : (l.flatMap formB).drop (posOf l i) = formB u ++ (l.drop (i + 1)).flatMap formB := by
  have e : l.flatMap formB = (l.take i).flatMap formB ++ (l.drop i).flatMap formB := by
    rw [← List.flatMap_append, List.take_append_drop]
  obtain ⟨h1, h2⟩ := List.getElem?_eq_some_iff.1 h
  rw [e, show posOf l i = ((l.take i).flatMap formB).length from rfl, List.drop_left, List.drop_eq_getElem_cons h1, h2, List.flatMap_cons]
theorem things_ok {w : World} {a : Option Addr} {ts : List ThingD} (h : ThingsAt w a ts) : ∀ t ∈ ts, t.Ok := fun t ht => by
  obtain ⟨j, hj, rfl⟩ := List.mem_iff_getElem.1 ht
  exact (h j _ (List.getElem?_eq_getElem hj)).1
set_option maxRecDepth 8000 in
set_option maxHeartbeats 4000000 in
/-- CodecBack. -/
theorem back_any {B : Nat} {se : Nat → Addr} {w : World} (G : Genv B se w) {a : Option Addr} {ts : List ThingD} (ca : Nat) (hx : ThingsAt w a ts) (hb : bulks.weight ts ≤ 1048576) :
    Calls Tryd.prog 8 #[.slice a ts.length ca] w fun e w' => e = .returned (.bool true) ∧ Ext w w' := by
  have HG := Lib.hid G
  have HXS := Lib.hid hx
  have HFIT := Lib.hid (taken_fit (things_ok hx))
  have hsz : (str (takenB ts)).size ≤ 9223372036854775807 := by
    rw [str_size]
    have := takenB_len ts (things_ok hx)
    omega
  have hll : (takenL ts).length ≤ 9223372036854775807 := by
    have h1 := takenL_len ts
    have h2 := bulks.weight_len ts
    omega
  have HB := Lib.hid hb
  have HSB := Lib.hid (takenB_is ts)
  clear G hx hb
  go_enter Tryd.func8, Tryd.ntmps8
  go_wp2_with fail
  refine (lives_any HG.out).mono ?_
  rintro e w1 ⟨rfl, hX⟩
  have HX := Lib.hid hX
  clear hX
  go_wp2_with fail
  refine (taken_ok (HG.out.ext HX.out) ca (HXS.out.later HX.out) HB.out).mono ?_
  rintro e w2 ⟨lb, lc, rfl, hX2, hth⟩
  have HX2 := Lib.hid (HX.out.thenExt hX2)
  have HTH := Lib.hid hth
  clear hX2 hth
  generalize takenL ts = l at HFIT hll HSB HTH ⊢
  rw [HSB.out] at hsz ⊢
  clear HSB
  go_wp2_with fail
  refine (ownR_new (HG.out.ext HX2.out) (str (l.flatMap formB)) hsz).mono ?_
  rintro e w3 ⟨rfl, O⟩
  have HO := Lib.hid O
  clear O
  generalize w2.heap.size = rb at HO ⊢
  go_wp2_with fail
  go_loopw [6] (fun iv wr => ∃ i : Nat, iv = .int .i64 i ∧ i ≤ l.length ∧ OwnR rb se w2 wr rb ⟨str (l.flatMap formB), posOf l i, none⟩) (fun iv _ => l.length - (intOf iv).toNat)
  case atStart => exact ⟨0, rfl, Nat.zero_le _, HO.out⟩
  case round =>
    obtain ⟨i, rfl, hi, O⟩ := hrel
    have HR := Lib.hid O
    clear O HO
    by_cases hlt : i < l.length
    · obtain ⟨u, tb, to, ht, hok, rfl, hc⟩ := thing_of_row (HTH.out.later HR.out.e) hlt
      have hfit := HFIT.out u (List.mem_of_getElem? ht)
      obtain ⟨e1, e2⟩ := took_back (x := ⟨str (l.flatMap formB), posOf l i, none⟩) hfit rfl (by show posOf l i ≤ (str _).size; rw [str_size]; exact posOf_le l i) (drop_pos l i u ht)
      have hb := blk_alloc wr (.cells (thingCells u).toArray 36)
      have X := (Upd.refl none' wr).alloc (.cells (thingCells u).toArray 36)
      have C := (HR.out.ext X).tookU u hok
      have hro := took_okD ⟨str (l.flatMap formB), posOf l i, none⟩ u hok hsz
      rw [e1] at C
      rw [show posOf l i + (formB u).length = posOf l (i + 1) from (posOf_succ l i u ht).symm] at C
      generalize (tookD ⟨str (l.flatMap formB), posOf l i, none⟩ u).1 = r at C e2 hro
      have hrb : rb < wr.heap.size := HR.out.r.lt rb HR.out.r.mem
      have HC := Lib.hid C
      have HSZ := Lib.hid (thing_size' u hok.h)
      have HCS := Lib.hid hc
      have HL := Lib.hid (fun (j : Nat) (v : Value) (hv : (thingCells u)[j]? = some v) => show World.cell? _ ⟨wr.heap.size, 0 + j, none⟩ = some v from by rw [cell_of_blk hb]; simpa using hv)
      have H1 := Lib.hid (one_cells u)
      have HZ := Lib.hid (show zero37.size = (thingCells u).length by rw [thingCells_len _ hok.h]; rfl)
      have HHB := Lib.hid hb
      have HE := Lib.hid e2
      have HOK := Lib.hid hok
      have HRO := Lib.hid hro
      clear hc ht hfit e1 e2 hb X C hok hro HR
      go_wp2_with (first
        | (refine wpList_storeNew rfl 36 _ _ rfl _ _ rfl (thingCells u) rfl HSZ.out HZ.out H1.out ?_)
        | (refine wpList_loadAgg rfl 36 _ rfl tb (to + i * 37) rfl (thingCells u) Tryd.underlying36 rfl HSZ.out HCS.out ?_)
        | (refine wpList_loadAgg rfl 36 _ rfl wr.heap.size 0 rfl (thingCells u) Tryd.underlying36 rfl HSZ.out HL.out ?_))
      refine HC.out.mono ?_
      rintro e w4 ⟨rfl, O, U⟩
      have hb4 := blk_alloc_lt (U.blk HHB.out (fun hk => by have e : wr.heap.size = rb := hk; omega)) (.cells (thingCells r).toArray 36)
      have hb5 := blk_alloc w4 (.cells (thingCells r).toArray 36)
      have HR2 := Lib.hid (O.ext ((Upd.refl none' w4).alloc (.cells (thingCells r).toArray 36)))
      have HSZ5 := Lib.hid (thing_size' r HRO.out.h)
      have H15 := Lib.hid (one_cells r)
      have HZ5 := Lib.hid (show zero37.size = (thingCells r).length by rw [thingCells_len _ HRO.out.h]; rfl)
      have R := round_any u.kind (w4.alloc (.cells (thingCells r).toArray 36)) HOK.out.kind1 HOK.out.kind2
      obtain ⟨c0, c1, c2, c3, c4, c5⟩ := thing_cells hb4
      obtain ⟨d0, d1, d2, d3, d4, d5⟩ := thing_cells hb5
      clear hb4 hb5 O U HC HL HZ HHB c0 c3 d0 d1 d3
      have HRR := Lib.hid R
      clear R
      rcases kinds u with hk | hk | hk | hk
      · rw [HE.out.n (.inl hk)] at d2
        rw [hk] at HRR
        clear c4 c5 d4 d5 hk
        go_wp2_with (first
          | (refine wpList_storeNew rfl 36 _ _ rfl _ _ rfl (thingCells r) rfl HSZ5.out HZ5.out H15.out ?_))
        refine HRR.out.mono ?_
        rintro e w5 ⟨rfl, rfl⟩
        go_wp2_with fail
        exact ⟨⟨i + 1, by simp, hlt, HR2.out⟩, by simp [intOf]; omega⟩
      · rw [HE.out.n (.inr hk)] at d2
        rw [hk] at HRR
        clear c4 c5 d4 d5 hk
        go_wp2_with (first
          | (refine wpList_storeNew rfl 36 _ _ rfl _ _ rfl (thingCells r) rfl HSZ5.out HZ5.out H15.out ?_))
        refine HRR.out.mono ?_
        rintro e w5 ⟨rfl, rfl⟩
        go_wp2_with fail
        exact ⟨⟨i + 1, by simp, hlt, HR2.out⟩, by simp [intOf]; omega⟩
      · rw [HE.out.t hk] at d4
        rw [hk] at HRR
        clear c2 c5 d2 d5 hk
        go_wp2_with (first
          | (refine wpList_storeNew rfl 36 _ _ rfl _ _ rfl (thingCells r) rfl HSZ5.out HZ5.out H15.out ?_))
        refine HRR.out.mono ?_
        rintro e w5 ⟨rfl, rfl⟩
        go_wp2_with fail
        exact ⟨⟨i + 1, by simp, hlt, HR2.out⟩, by simp [intOf]; omega⟩
      · rw [HE.out.h hk] at d5
        rw [hk] at HRR
        have HSH := Lib.hid (show (Tryd.prog.info? 34).map (·.size) = some (u.h.map u8v).length by rw [List.length_map, HOK.out.h]; exact hash_size)
        have HC5 := Lib.hid c5
        have HD5 := Lib.hid d5
        have HSM := Lib.hid (fun w => hash_same u.h HOK.out.h w)
        clear c2 c4 c5 d2 d4 d5 hk
        go_wp2_with (first
          | (refine wpList_storeNew rfl 36 _ _ rfl _ _ rfl (thingCells r) rfl HSZ5.out HZ5.out H15.out ?_))
        refine HRR.out.mono ?_
        rintro e w5 ⟨rfl, rfl⟩
        go_wp2_with (first
          | (refine wpList_loadAgg rfl 34 _ rfl wr.heap.size 5 rfl (u.h.map u8v) Tryd.underlying34 rfl HSH.out HC5.out ?_)
          | (refine wpList_loadAgg rfl 34 _ rfl w4.heap.size 5 rfl (u.h.map u8v) Tryd.underlying34 rfl HSH.out HD5.out ?_)
          | (refine wpList_eqlAgg rfl 34 _ _ _ rfl (u.h.map u8v).toArray (u.h.map u8v).toArray rfl rfl guard_hash (HSM.out _) ?_))
        exact ⟨⟨i + 1, by simp, hlt, HR2.out⟩, by simp [intOf]; omega⟩
    · have hil : i = l.length := by omega
      subst hil
      have hpos : posOf l l.length = (str (l.flatMap formB)).size := by unfold posOf; rw [List.take_length, str_size]
      have hfin : (⟨str (l.flatMap formB), posOf l l.length, none⟩ : RdD).fin = none := by
        unfold RdD.fin
        rw [if_neg (by intro h; have := h.2; have : posOf l l.length < (str (l.flatMap formB)).size := this; omega)]
      have hleft : (⟨str (l.flatMap formB), posOf l l.length, none⟩ : RdD).left = 0 := by
        unfold RdD.left
        rw [if_pos rfl]
        show ((str (l.flatMap formB)).size : Int) - (posOf l l.length : Nat) = 0
        omega
      have HFI := Lib.hid hfin
      have HLE := Lib.hid hleft
      clear hpos hfin hleft
      go_wp2_with fail
      refine HR.out.end.mono ?_
      rintro e w4 ⟨v, rfl, hv, O⟩
      rw [HFI.out] at hv
      obtain rfl : v = .nilIface := hv
      have HR2 := Lib.hid O
      clear O HR
      go_wp2_with fail
      refine HR2.out.left.mono ?_
      rw [HLE.out]
      rintro e w5 ⟨rfl, O⟩
      have A := HX2.out.thenExt O.e
      clear O HR2
      go_wp2_with fail
      go_ret
      exact ⟨rfl, A⟩
/-- Where a cut text is read: the first i are behind, or what is cut off has been refused. -/
structure CutAt (l : List ThingD) (c i : Nat) (x : RdD) : Prop where
  src : x.s = str ((l.flatMap formB).take c)
  st : (x.f = none ∧ x.pos = posOf l i ∧ posOf l i ≤ c) ∨ ∃ p, x.f = some (3, some p)
theorem CutAt.start (l : List ThingD) (c : Nat) : CutAt l c 0 ⟨str ((l.flatMap formB).take c), 0, none⟩ := ⟨rfl, .inl ⟨rfl, rfl, Nat.zero_le _⟩⟩
theorem CutAt.step {l : List ThingD} {c i : Nat} {x : RdD} (h : CutAt l c i x) (hc : c < (l.flatMap formB).length) {u : ThingD} (hu : l[i]? = some u) (hf : Fit u) : CutAt l c (i + 1) (tookD x u).2 := by
  refine ⟨(took_le x u).s.trans h.src, ?_⟩
  rcases h.st with ⟨h1, h2, h3⟩ | ⟨p, h1⟩
  · have hr : x.rest = (formB u ++ (l.drop (i + 1)).flatMap formB).take (c - posOf l i) := by
      unfold RdD.rest
      rw [h.src, h2, ← drop_pos l i u hu]
      show ((l.flatMap formB).take c).drop _ = _
      rw [List.drop_take]
    have hp : x.pos ≤ x.s.size := by rw [h.src, h2, str_size, List.length_take]; omega
    by_cases hm : (formB u).length ≤ c - posOf l i
    · rw [List.take_append, List.take_of_length_le hm] at hr
      obtain ⟨e1, _⟩ := took_back hf h1 hp hr
      rw [e1]
      have e2 := posOf_succ l i u hu
      exact .inl ⟨h1, by show x.pos + _ = _; omega, by omega⟩
    · exact .inr ⟨_, took_cut hf h1 hp hr (by omega)⟩
  · rw [took_fault x u (by rw [h1]; simp)]
    exact .inr ⟨p, h1⟩
theorem CutAt.done {l : List ThingD} {c : Nat} {x : RdD} (h : CutAt l c l.length x) (hc : c < (l.flatMap formB).length) : x.f ≠ none ∧ codeOf x.fin = 3 := by
  rcases h.st with ⟨_, _, h3⟩ | ⟨p, h1⟩
  · unfold posOf at h3
    rw [List.take_length] at h3
    omega
  · have hf : x.f ≠ none := by rw [h1]; simp
    refine ⟨hf, ?_⟩
    rw [fin_fault x hf, h1]; rfl
theorem fit_empty {l : List ThingD} (h : ∀ u ∈ l, Fit u) (he : (l.flatMap formB).length = 0) : l.length = 0 := by
  cases l with
  | nil => rfl
  | cons u l =>
    have := fit_pos (h u (by simp))
    rw [List.flatMap_cons, List.length_append] at he
    omega
theorem str_cut (b : List UInt8) (c : Nat) : (str b).extract 0 c = str (b.take c) := by
  apply ByteArray.ext
  apply Array.ext'
  simp
/-- round, of whatever number. -/
theorem round_gen (k : Int) (n : Nat) (w : World) (h1 : -9223372036854775808 ≤ k) (h2 : k ≤ 9223372036854775807) (hn : 0 < n) (hn2 : n ≤ 9223372036854775807) :
    Calls Tryd.prog 14 #[.int .i64 k, .int .i64 n] w fun e w' => ∃ c : Nat, c < n ∧ e = .returned (.int .i64 c) ∧ w = w' := by
  have hn0 : ((n : Int) == 0) = false := by simp; omega
  have hm : k.tmod (n : Int) = if (n : Int) ∣ k ∨ 0 ≤ k then k % n else k % n - n := by
    rw [Int.tmod_eq_emod]
    have e : ((n : Int).natAbs : Int) = n := by omega
    by_cases h : 0 ≤ k ∨ (n : Int) ∣ k
    · rw [if_pos h, if_pos h.symm]; omega
    · rw [if_neg h, if_neg (fun e => h e.symm), e]
  have p1 := Int.emod_nonneg k (show (n : Int) ≠ 0 by omega)
  have p2 := Int.emod_lt_of_pos k (show (0 : Int) < n by omega)
  have hb : -(n : Int) < k.tmod n ∧ k.tmod n < n := by
    by_cases h : (n : Int) ∣ k ∨ 0 ≤ k
    · rw [if_pos h] at hm; omega
    · rw [if_neg h] at hm
      have : k % (n : Int) ≠ 0 := fun e => h (.inl (Int.dvd_of_emod_eq_zero e))
      omega
  clear hm p1 p2
  go_enter Tryd.func14, Tryd.ntmps14
  go_wp2
  · have e : k.tmod n + n = ((k.tmod n + n).toNat : Nat) := by omega
    go_ret
    exact ⟨(k.tmod n + n).toNat, by omega, by rw [← e]; rfl, rfl⟩
  · have e : k.tmod n = ((k.tmod n).toNat : Nat) := by omega
    go_ret
    exact ⟨(k.tmod n).toNat, by omega, by rw [← e]; rfl, rfl⟩
set_option maxRecDepth 8000 in
set_option maxHeartbeats 4000000 in
/-- CodecCuts. -/
theorem cuts_any {B : Nat} {se : Nat → Addr} {w : World} (G : Genv B se w) {a : Option Addr} {ts : List ThingD} (ca : Nat) (hx : ThingsAt w a ts) (hb : bulks.weight ts ≤ 1048576) (k : Int) (hk1 : -9223372036854775808 ≤ k) (hk2 : k ≤ 9223372036854775807) :
    Calls Tryd.prog 10 #[.slice a ts.length ca, .int .i64 k] w fun e w' => e = .returned (.bool true) ∧ Ext w w' := by
  have HG := Lib.hid G
  have HXS := Lib.hid hx
  have HFIT := Lib.hid (taken_fit (things_ok hx))
  have hsz : (takenB ts).length ≤ 9223372036854775807 := by
    have := takenB_len ts (things_ok hx)
    omega
  have hll : (takenL ts).length ≤ 9223372036854775807 := by
    have h1 := takenL_len ts
    have h2 := bulks.weight_len ts
    omega
  have HB := Lib.hid hb
  have HSB := Lib.hid (takenB_is ts)
  clear G hx hb
  go_enter Tryd.func10, Tryd.ntmps10
  go_wp2_with fail
  refine (lives_any HG.out).mono ?_
  rintro e w1 ⟨rfl, hX⟩
  have HX := Lib.hid hX
  clear hX
  go_wp2_with fail
  refine (taken_ok (HG.out.ext HX.out) ca (HXS.out.later HX.out) HB.out).mono ?_
  rintro e w2 ⟨lb, lc, rfl, hX2, hth⟩
  have HX2 := Lib.hid (HX.out.thenExt hX2)
  have HTH := Lib.hid hth
  clear hX2 hth
  generalize takenL ts = l at HFIT hll HSB HTH ⊢
  rw [HSB.out] at hsz ⊢
  clear HSB
  have hbz : (str (l.flatMap formB)).size = (l.flatMap formB).length := str_size _
  by_cases h0 : (l.flatMap formB).length = 0
  · have hl0 := fit_empty HFIT.out h0
    obtain rfl : l = [] := List.length_eq_zero_iff.1 hl0
    have A := HX2.out
    go_wp2_with fail
    go_ret
    exact ⟨rfl, A⟩
  · have h1 : (((str (l.flatMap formB)).size : Int) == 0) = false := by rw [hbz]; simp only [beq_eq_false_iff_ne]; omega
    have hS : ∃ S, S = str (l.flatMap formB) := ⟨_, rfl⟩
    obtain ⟨S, hS⟩ := hS
    rw [← hS] at hbz h1 ⊢
    have R := round_gen k S.size w2 hk1 hk2 (by omega) (by omega)
    have HBZ := Lib.hid hbz
    have HSS := Lib.hid hS
    have HH0 := Lib.hid h0
    clear hbz hS h0
    go_wp2_with fail
    refine R.mono ?_
    rintro e w3 ⟨c, hc, rfl, rfl⟩
    have hcl : c < (l.flatMap formB).length := by rw [← HBZ.out]; exact hc
    have hex : S.extract 0 c = str ((l.flatMap formB).take c) := by rw [HSS.out]; exact str_cut _ c
    have hcz : (str ((l.flatMap formB).take c)).size ≤ 9223372036854775807 := by rw [str_size, List.length_take]; omega
    go_wp2_with fail
    refine (ownR_new (HG.out.ext HX2.out) (str ((l.flatMap formB).take c)) hcz).mono ?_
    rintro e w3 ⟨rfl, O⟩
    have HO := Lib.hid O
    clear O hex hc
    generalize w2.heap.size = rb at HO ⊢
    have HCL := Lib.hid hcl
    clear hcl
    have ST := Lib.hid (CutAt.start l c)
    generalize (⟨str ((l.flatMap formB).take c), 0, none⟩ : RdD) = x0 at HO ST ⊢
    go_wp2_with fail
    go_loopw [8] (fun iv wr => ∃ (i : Nat) (x : RdD), iv = .int .i64 i ∧ i ≤ l.length ∧ OwnR rb se w2 wr rb x ∧ CutAt l c i x) (fun iv _ => l.length - (intOf iv).toNat)
    case atStart => exact ⟨0, x0, rfl, Nat.zero_le _, HO.out, ST.out⟩
    case round =>
      obtain ⟨i, x, rfl, hi, O, CA⟩ := hrel
      have HR := Lib.hid O
      have HCA := Lib.hid CA
      clear O HO CA ST
      by_cases hlt : i < l.length
      · obtain ⟨u, tb, to, ht, hok, rfl, hc⟩ := thing_of_row (HTH.out.later HR.out.e) hlt
        have CS := HCA.out.step HCL.out ht (HFIT.out u (List.mem_of_getElem? ht))
        have C := HR.out.took u hok
        generalize (tookD x u).2 = y at C CS
        generalize (tookD x u).1 = r at C
        have HC := Lib.hid C
        have HCS2 := Lib.hid CS
        have HSZ := Lib.hid (thing_size' u hok.h)
        have HCS := Lib.hid hc
        clear C CS hc ht hok
        go_wp2_with (refine wpList_loadAgg rfl 36 _ rfl tb (to + i * 37) rfl (thingCells u) Tryd.underlying36 rfl HSZ.out HCS.out ?_)
        refine HC.out.mono ?_
        rintro e w4 ⟨rfl, O⟩
        have HR2 := Lib.hid O
        clear O HC HR
        go_wp2_with fail
        exact ⟨⟨i + 1, y, by simp, hlt, HR2.out, HCS2.out⟩, by simp [intOf]; omega⟩
      · have hil : i = l.length := by omega
        subst hil
        obtain ⟨hf, hcode⟩ := HCA.out.done HCL.out
        have hleft := left_fault x hf
        have HLE := Lib.hid hleft
        have HCO := Lib.hid hcode
        clear hleft hcode hf
        go_wp2_with fail
        refine HR.out.end.mono ?_
        rintro e w4 ⟨v, rfl, hv, O⟩
        have HR2 := Lib.hid O
        have HV := Lib.hid hv
        clear O HR hv
        go_wp2_with fail
        refine (code_any HR2.out.g HV.out).mono ?_
        rw [HCO.out]
        rintro e w5 ⟨rfl, u⟩
        have HR3 := Lib.hid (HR2.out.ext u)
        clear HR2 HV u
        go_wp2_with fail
        refine HR3.out.left.mono ?_
        rw [HLE.out]
        rintro e w6 ⟨rfl, O⟩
        have A := HX2.out.thenExt O.e
        clear O HR3
        go_wp2_with fail
        go_ret
        exact ⟨rfl, A⟩
end Go.Proofs.YtkabomkikbdigaaDoor
