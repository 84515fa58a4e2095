/- The walk of taken. -/
import Derived.Test.YtkabomkikbdigaaDoorTaken
import Derived.Great.BuildSlice
namespace Go.Proofs.YtkabomkikbdigaaDoor
open Go.RowKit Go.Lib

theorem fold_zip (l : List Value) : ∀ (k : Nat) (z : Array Value) (n : Nat), z.size = n → k + l.length ≤ n →
    let r := (l.zipIdx k).foldl (fun cs (x : Value × Nat) => cs.setIfInBounds (0 + x.2) x.1) z
    r.size = n ∧ ∀ i, r[i]? = if k ≤ i ∧ i < k + l.length then l[i - k]? else z[i]? := by
  induction l with
  | nil =>
    intro k z n hz _
    refine ⟨hz, fun i => ?_⟩
    rw [if_neg (by simp only [List.length_nil]; omega)]; rfl
  | cons v l ih =>
    intro k z n hz hk
    simp only [List.length_cons] at hk
    have h := ih (k + 1) (z.setIfInBounds (0 + k) v) n (by simpa using hz) (by omega)
    refine ⟨h.1, fun i => ?_⟩
    have h2 := h.2 i
    simp only [List.zipIdx_cons, List.foldl_cons] at h2 ⊢
    rw [h2]
    by_cases h1 : k + 1 ≤ i ∧ i < k + 1 + l.length
    · rw [if_pos h1, if_pos (by simp only [List.length_cons]; omega), show i - k = (i - (k + 1)) + 1 by omega, List.getElem?_cons_succ]
    · rw [if_neg h1]
      by_cases h3 : i = k
      · subst h3
        rw [if_pos (by simp only [List.length_cons]; omega), Nat.sub_self, List.getElem?_cons_zero, Nat.zero_add, Array.getElem?_setIfInBounds_self_of_lt (by omega)]
      · rw [if_neg (by simp only [List.length_cons]; omega), Nat.zero_add, Array.getElem?_setIfInBounds_ne (by omega)]
theorem fold_all (l : List Value) (z : Array Value) (hz : z.size = l.length) : l.toArray.zipIdx.foldl (fun cs (x : Value × Nat) => cs.setIfInBounds (0 + x.2) x.1) z = l.toArray := by
  rw [← Array.foldl_toList, Array.toList_zipIdx]
  obtain ⟨h1, h2⟩ := fold_zip l 0 z l.length hz (by omega)
  apply Array.ext_getElem?
  intro i
  have := h2 i
  simp only at this h1 ⊢
  rw [this]
  by_cases hi : i < l.length
  · rw [if_pos (by omega), Nat.sub_zero]; simp
  · have a1 : z[i]? = none := Array.getElem?_eq_none (by omega)
    have a2 : l.toArray[i]? = none := Array.getElem?_eq_none (by rw [List.size_toArray]; omega)
    rw [if_neg (by omega), a1, a2]
/-- A row of one struct. -/
theorem wpList_buildOne {P : Program} {w : World} {ops : Array Oper} {rest : List Oper} {o : Oper} {a : Act} {Q : Exit → Act → World → Prop} (hg : o.guard = none) (t e : TypeId) (y : Operand) (ho : o.op = .buildSlice t 1 #[(0, y)])
    (vs : List Value) (hy : a.eval y = .agg vs.toArray) (hu : P.underlying t = some (.slice e)) (hi : (P.info? e).map (·.size) = some vs.length) (hz : ((P.info? e).bind (·.zero)).isSome = true) (hpos : 0 < vs.length) (hsmall : vs.length ≤ 16777216)
    (h : wpList P ops Q rest (a.put o.dst (.slice (some ⟨w.heap.size, 0, none⟩) 1 1)) (w.alloc (.cells vs.toArray e))) : wpList P ops Q (o :: rest) a w := by
  cases hie : P.info? e with
  | none => simp [hie] at hi
  | some ie =>
    simp only [hie, Option.map_some, Option.some.injEq, Option.bind_some] at hi hz
    obtain ⟨z, hzz⟩ := Option.isSome_iff_exists.1 hz
    refine wpList_buildSlice hg t e 1 _ ho vs.toArray ie z hu hie hzz (by rw [hi]; omega) (by rw [hi]; omega) ?_ h
    simp only [List.map_toArray, List.map_cons, List.map_nil, hy, Instr.fill, Value.cells, hi, Nat.zero_mul, Nat.one_mul]
    rw [if_neg (by simp), fold_all _ _ (by simp)]
theorem zero_thing : ((Tryd.prog.info? 36).bind (·.zero)).isSome = true := by kernel_rfl
theorem info_thing : (Tryd.prog.info? 36).map (fun i => (i.zero, i.size, i.bytes)) = some (some (.agg zero37), 37, 80) := by kernel_rfl
set_option maxRecDepth 8000 in
set_option maxHeartbeats 4000000 in
/-- taken. -/
theorem taken_ok {B : Nat} {se : Nat → Addr} {w : World} (G : Genv B se w) {a : Option Addr} {ts : List ThingD} (ca : Nat) (hx : ThingsAt w a ts) (hb : bulks.weight ts ≤ 1048576) :
    Calls Tryd.prog 38 #[.slice a ts.length ca] w fun e w' => ∃ b cap, e = .returned (.tuple #[.slice b (takenL ts).length cap, .string (str (takenB ts))]) ∧ Ext w w' ∧ ThingsAt w' b (takenL ts) := by
  have HG := Lib.hid G
  have HXS := Lib.hid hx
  have hxl : ts.length ≤ 9223372036854775807 := by have := bulks.weight_len ts; omega
  have HB := Lib.hid hb
  clear G hx hb
  go_enter Tryd.func38, Tryd.ntmps38
  go_wp2_with fail
  refine (own_new HG.out).mono ?_
  rintro e w1 ⟨rfl, O⟩
  have HT := Lib.hid (Taken.start O)
  clear O
  generalize w.heap.size = wb at HT ⊢
  go_wp2_with fail
  go_loopw [5, 6] (fun lv iv wr => ∃ (i : Nat) (A : Nat → Prop), iv = .int .i64 i ∧ i ≤ ts.length ∧ Taken wb A se w wr wb (takenB (ts.take i)) lv (takenL (ts.take i))) (fun _ iv _ => ts.length - (intOf iv).toNat)
  case atStart => exact ⟨0, _, rfl, Nat.zero_le _, HT.out⟩
  case round =>
    obtain ⟨i, A, rfl, hi, O⟩ := hrel
    have HT1 := Lib.hid O
    clear O HT
    by_cases hlt : i < ts.length
    · obtain ⟨t, tb, to, ht, hok, rfl, hc⟩ := thing_of_row (HXS.out.later HT1.out.e) hlt
      have HSZ := Lib.hid (thing_size' t hok.h)
      have HCS := Lib.hid hc
      have hsnoc : ts.take (i + 1) = ts.take i ++ [t] := by rw [List.take_add_one, ht]; rfl
      have hmem : t ∈ ts := List.mem_of_getElem? ht
      have hlen : (takenB (ts.take i)).length + 1048676 ≤ 1099511627776 := by
        have h1 := takenB_len (ts.take i) (fun u hu => by
          obtain ⟨j, hj, rfl⟩ := List.mem_iff_getElem.1 (List.mem_of_mem_take hu)
          exact (HXS.out j _ (List.getElem?_eq_getElem hj)).1)
        have h2 := weight_take ts i
        have := HB.out
        omega
      have htl : t.t.size ≤ 1048576 := by have := weight_mem ts t hmem; have := HB.out; omega
      have hll : (takenL (ts.take i)).length ≤ 1048576 := by
        have h1 := takenL_len (ts.take i)
        have h2 := bulks.weight_len ts
        have := HB.out
        rw [List.length_take] at h1
        omega
      have hb := blk_alloc wr (.cells (thingCells t).toArray 36)
      have X := (Upd.refl none' wr).alloc (.cells (thingCells t).toArray 36)
      have HL := Lib.hid (fun (j : Nat) (v : Value) (hv : (thingCells t)[j]? = some v) => show World.cell? _ ⟨wr.heap.size, 0 + j, none⟩ = some v from by rw [cell_of_blk hb]; simpa using hv)
      have H1 := Lib.hid (one_cells t)
      have HZ := Lib.hid (show zero37.size = (thingCells t).length by rw [thingCells_len _ hok.h]; rfl)
      have HC := Lib.hid ((HT1.out.ext X).put t hok htl hlen)
      have HHB := Lib.hid hb
      have hA : ∀ k, A k → k < wr.heap.size := HT1.out.hA
      have hwb : wb ≤ wr.heap.size := HT1.out.g.size
      have HOK := Lib.hid hok
      have HSN := Lib.hid hsnoc
      clear hc ht hmem hb X hok hsnoc HT1
      go_wp2_with (first
        | (refine wpList_storeNew rfl 36 _ _ rfl _ _ rfl (thingCells t) rfl HSZ.out HZ.out H1.out ?_)
        | (refine wpList_loadAgg rfl 36 _ rfl tb (to + i * 37) rfl (thingCells t) Tryd.underlying36 rfl HSZ.out HCS.out ?_)
        | (refine wpList_loadAgg rfl 36 _ rfl wr.heap.size 0 rfl (thingCells t) Tryd.underlying36 rfl HSZ.out HL.out ?_))
      refine HC.out.mono ?_
      rintro e w2 ⟨v, rfl, hv, O, u⟩
      have hb2 : w2.heap[wr.heap.size]? = some (.cells (thingCells t).toArray 36 (0, 0)) := u.blk HHB.out (fun hk => by have := hA _ hk; omega)
      have HT2 := Lib.hid O
      clear O u HC HL HZ HCS HHB
      by_cases he : okT t = true
      · have hn : formE t = none := by simpa [okT] using he
        rw [hn] at hv
        obtain rfl : v = .nilIface := hv
        obtain ⟨c0, c1, c2, c3, c4, c5⟩ := thing_cells hb2
        have R := round_any t.kind w2 HOK.out.kind1 HOK.out.kind2
        have f3 := free_of_blk hb2 3
        by_cases hk : t.kind % 4 = 2
        · rw [hk] at R
          have hb3 := blk_set hb2 3 (.int .i64 (t.t.size : Int))
          have ep : ((thingCells t).toArray.setIfInBounds 3 (.int .i64 (t.t.size : Int))) = (thingCells (putIn t)).toArray := by unfold putIn; rw [if_pos hk]; rfl
          rw [ep] at hb3
          have hpo := putIn_ok HOK.out
          have HL3 := Lib.hid (fun (j : Nat) (v : Value) (hv : (thingCells (putIn t))[j]? = some v) => show World.cell? _ ⟨wr.heap.size, 0 + j, none⟩ = some v from by rw [cell_of_blk hb3]; simpa using hv)
          have HSZ3 := Lib.hid (thing_size' (putIn t) hpo.h)
          have HP3 := Lib.hid (show 0 < (thingCells (putIn t)).length ∧ (thingCells (putIn t)).length ≤ 16777216 by rw [thingCells_len _ hpo.h]; decide)
          have U1 : Upd (one wr.heap.size) w2 (w2.setCell ⟨wr.heap.size, 3, none⟩ (.int .i64 (t.t.size : Int))) := (Upd.refl (one wr.heap.size) w2).setCell (p := ⟨wr.heap.size, 3, none⟩) (.inr (show one _ _ from rfl)) _
          have HT3 := Lib.hid ((HT2.out.upd U1 (fun k hk => by
            have e : k = wr.heap.size := hk
            subst e
            exact ⟨hwb, fun hk => hk.elim (fun hk => by have := hA _ hk; omega) (fun hk => by have := hk.1; rw [World.size_alloc] at this; omega)⟩)).ext ((Upd.refl none' _).alloc (.cells (thingCells (putIn t)).toArray 36)))
          have hb4 := blk_alloc (w2.setCell ⟨wr.heap.size, 3, none⟩ (.int .i64 (t.t.size : Int))) (.cells (thingCells (putIn t)).toArray 36)
          have HN4 := Lib.hid (fun (j : Nat) (u : Value) (hu : (thingCells (putIn t))[j]? = some u) => show World.cell? _ ((⟨(w2.setCell ⟨wr.heap.size, 3, none⟩ (.int .i64 (t.t.size : Int))).heap.size, 0, none⟩ : Addr).add j) = some u from by
            have e : (⟨(w2.setCell ⟨wr.heap.size, 3, none⟩ (.int .i64 (t.t.size : Int))).heap.size, 0, none⟩ : Addr).add j = ⟨(w2.setCell ⟨wr.heap.size, 3, none⟩ (.int .i64 (t.t.size : Int))).heap.size, j, none⟩ := by unfold Addr.add; split <;> simp_all
            rw [e, cell_of_blk hb4]; simpa using hu)
          have HLN := Lib.hid (show (thingCells (putIn t)).length = 1 * 37 by rw [thingCells_len _ hpo.h])
          have H13 := Lib.hid (one_cells (putIn t))
          have HM := Lib.hid (show (takenL (ts.take i)).length + 1 ≤ maxLen ∧ ((takenL (ts.take i)).length + 1) * 80 ≤ 140737488355328 by unfold maxLen; omega)
          have HNB := Lib.hid (show wb ≤ ((w2.setCell ⟨wr.heap.size, 3, none⟩ (.int .i64 (t.t.size : Int))).alloc (.cells (thingCells (putIn t)).toArray 36)).heap.size from HT3.out.g.size)
          obtain ⟨i0, hi0, hz0, hz1, hz2⟩ := info_parts info_thing
          clear c5 ep hb3 hb4 U1
          go_wp2_with fail
          refine R.mono ?_
          rintro e w3 ⟨rfl, rfl⟩
          go_wp2_with (first
            | (refine wpList_loadAgg rfl 36 _ rfl wr.heap.size 0 rfl (thingCells (putIn t)) Tryd.underlying36 rfl HSZ3.out HL3.out ?_)
            | (refine wpList_buildOne rfl 25 36 _ rfl (thingCells (putIn t)) rfl Tryd.underlying25 HSZ3.out zero_thing HP3.out.1 HP3.out.2 ?_)
            | (at_builtin; (refine wpList_app rfl _ _ 25 rfl wb 36 i0 _ 37 80 Tryd.underlying25 hi0 hz0 hz1 hz2 rfl (by decide) _ _ _ rfl HT3.out.own ⟨(w2.setCell ⟨wr.heap.size, 3, none⟩ (.int .i64 (t.t.size : Int))).heap.size, 0, none⟩ 1 1 (thingCells (putIn t)) rfl HLN.out HN4.out H13.out HM.out.1 HM.out.2 HNB.out ?_)))
          intro v' w4 ho hg hbl
          have HT4 := Lib.hid (HT3.out.app (putIn t) ho hg (by simpa using hbl))
          clear ho hg hbl HT3 HT2 HL3 HSZ3 HP3 HN4 HLN H13 HM HNB hi0 hz0 hz1 hz2 R
          go_wp2_with fail
          exact ⟨⟨i + 1, _, by simp, hlt, by rw [HSN.out, takenB_snoc, takenL_snoc, if_pos he]; exact HT4.out⟩, by simp [intOf]; omega⟩
        · have hk2 : (t.kind % 4 == 2) = false := by simpa using hk
          have ep : putIn t = t := by unfold putIn; rw [if_neg hk]
          have hb3 := hb2
          rw [← ep] at hb3
          have hpo := putIn_ok HOK.out
          have HL3 := Lib.hid (fun (j : Nat) (v : Value) (hv : (thingCells (putIn t))[j]? = some v) => show World.cell? _ ⟨wr.heap.size, 0 + j, none⟩ = some v from by rw [cell_of_blk hb3]; simpa using hv)
          have HSZ3 := Lib.hid (thing_size' (putIn t) hpo.h)
          have HP3 := Lib.hid (show 0 < (thingCells (putIn t)).length ∧ (thingCells (putIn t)).length ≤ 16777216 by rw [thingCells_len _ hpo.h]; decide)
          have HT3 := Lib.hid (HT2.out.ext ((Upd.refl none' _).alloc (.cells (thingCells (putIn t)).toArray 36)))
          have hb4 := blk_alloc w2 (.cells (thingCells (putIn t)).toArray 36)
          have HN4 := Lib.hid (fun (j : Nat) (u : Value) (hu : (thingCells (putIn t))[j]? = some u) => show World.cell? _ ((⟨w2.heap.size, 0, none⟩ : Addr).add j) = some u from by
            have e : (⟨w2.heap.size, 0, none⟩ : Addr).add j = ⟨w2.heap.size, j, none⟩ := by unfold Addr.add; split <;> simp_all
            rw [e, cell_of_blk hb4]; simpa using hu)
          have HLN := Lib.hid (show (thingCells (putIn t)).length = 1 * 37 by rw [thingCells_len _ hpo.h])
          have H13 := Lib.hid (one_cells (putIn t))
          have HM := Lib.hid (show (takenL (ts.take i)).length + 1 ≤ maxLen ∧ ((takenL (ts.take i)).length + 1) * 80 ≤ 140737488355328 by unfold maxLen; omega)
          have HNB := Lib.hid (show wb ≤ (w2.alloc (.cells (thingCells (putIn t)).toArray 36)).heap.size from HT3.out.g.size)
          obtain ⟨i0, hi0, hz0, hz1, hz2⟩ := info_parts info_thing
          clear c5 ep hb3 hb4
          go_wp2_with fail
          refine R.mono ?_
          rintro e w3 ⟨rfl, rfl⟩
          go_wp2_with (first
            | (refine wpList_loadAgg rfl 36 _ rfl wr.heap.size 0 rfl (thingCells (putIn t)) Tryd.underlying36 rfl HSZ3.out HL3.out ?_)
            | (refine wpList_buildOne rfl 25 36 _ rfl (thingCells (putIn t)) rfl Tryd.underlying25 HSZ3.out zero_thing HP3.out.1 HP3.out.2 ?_)
            | (at_builtin; (refine wpList_app rfl _ _ 25 rfl wb 36 i0 _ 37 80 Tryd.underlying25 hi0 hz0 hz1 hz2 rfl (by decide) _ _ _ rfl HT3.out.own ⟨w2.heap.size, 0, none⟩ 1 1 (thingCells (putIn t)) rfl HLN.out HN4.out H13.out HM.out.1 HM.out.2 HNB.out ?_)))
          intro v' w4 ho hg hbl
          have HT4 := Lib.hid (HT3.out.app (putIn t) ho hg (by simpa using hbl))
          clear ho hg hbl HT3 HT2 HL3 HSZ3 HP3 HN4 HLN H13 HM HNB hi0 hz0 hz1 hz2 R
          go_wp2_with fail
          exact ⟨⟨i + 1, _, by simp, hlt, by rw [HSN.out, takenB_snoc, takenL_snoc, if_pos he]; exact HT4.out⟩, by simp [intOf]; omega⟩
      · obtain ⟨t2, x2, rfl⟩ := hv.some_iface (by intro e; rw [okT, e] at he; simp at he)
        go_wp2_with fail
        exact ⟨⟨i + 1, _, by simp, hlt, by rw [HSN.out, takenB_snoc, takenL_snoc, if_neg he]; exact HT2.out⟩, by simp [intOf]; omega⟩
    · have hil : i = ts.length := by omega
      subst hil
      rw [List.take_length] at HT1
      have hok : ∀ t ∈ takenL ts, t.Ok := fun t ht => by
        unfold takenL at ht
        obtain ⟨u, hu, rfl⟩ := List.mem_map.1 ht
        obtain ⟨j, hj, rfl⟩ := List.mem_iff_getElem.1 (List.mem_filter.1 hu).1
        exact putIn_ok (HXS.out j _ (List.getElem?_eq_getElem hj)).1
      obtain ⟨lb, lc, rfl, hth⟩ := HT1.out.things hok
      have HTH := Lib.hid hth
      clear hth hok
      go_wp2_with fail
      refine HT1.out.done.mono ?_
      rintro e w2 ⟨rfl, rfl⟩
      go_wp2_with fail
      go_ret2
      exact ⟨lb, lc, rfl, HT1.out.e, HTH.out⟩
end Go.Proofs.YtkabomkikbdigaaDoor
