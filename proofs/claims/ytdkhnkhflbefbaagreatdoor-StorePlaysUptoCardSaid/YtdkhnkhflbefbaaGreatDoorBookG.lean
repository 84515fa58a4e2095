/- A Book's texts: more is put behind each. -/
import Derived.Test.YtdkhnkhflbefbaaGreatDoorBookT
namespace Go.Proofs.YtdkhnkhflbefbaaGreatDoor
open Go.RowKit Go.Lib

/-- Behind the first i lists more has been put. -/
structure GrowT (B : Nat) (W : World) (tv : Value) (L L' : List HeldD) (i : Nat) : Prop where
  len : L'.length = L.length
  same : ∀ (j : Nat) h, L[j]? = some h → ∃ h', L'[j]? = some h' ∧ h'.v = h.v ∧ h'.n = h.n ∧ h'.num = h.num
  row : W.ownsRow B 111 3 tv L'.length (heldsL L')
  done : ∀ (j : Nat) h, j < i → L'[j]? = some h → W.ownsRow B 9 1 h.long (h.n + 70) (repL (h.n + 70) (markT h.num)) ∧ ReadV W h.v h.n (markT h.num)
  rest : ∀ (j : Nat) h, i ≤ j → L'[j]? = some h → h.long = .slice none 0 0 ∧ W.ownsRow B 9 1 h.v h.n (repL h.n (markT h.num))
  sepv : ∀ (j k : Nat) h h' g, L'[j]? = some h → L'[k]? = some h' → j ≠ k → h.v.ownBlock = some g → h'.v.ownBlock ≠ some g
  sepl : ∀ (j k : Nat) h h' g, j < i → L'[j]? = some h → L'[k]? = some h' → j ≠ k → h.long.ownBlock = some g → h'.v.ownBlock ≠ some g ∧ (k < i → h'.long.ownBlock ≠ some g)
  rsep : ∀ (j : Nat) h g, L'[j]? = some h → h.v.ownBlock = some g → tv.ownBlock ≠ some g ∧ g < W.heap.size
section
variable {B : Nat} {W W2 : World} {tv : Value} {L L' : List HeldD} {i : Nat}
theorem GrowT.ext (h : GrowT B W tv L L' i) (u : Ext W W2) : GrowT B W2 tv L L' i :=
  ⟨h.len, h.same, ownsRow_upd h.row u (fun _ _ k => k), fun j hd hj hjd => ⟨ownsRow_upd (h.done j hd hj hjd).1 u (fun _ _ k => k), (h.done j hd hj hjd).2.ext u⟩, fun j hd hj hjd => ⟨(h.rest j hd hj hjd).1, ownsRow_upd (h.rest j hd hj hjd).2 u (fun _ _ k => k)⟩, h.sepv, h.sepl, fun j hd g hj hg => ⟨(h.rsep j hd g hj hg).1, Nat.lt_of_lt_of_le (h.rsep j hd g hj hg).2 u.size⟩⟩
theorem GrowT.start {C : Nat → List Value} (h : HoldT B W tv L C) (hc : ∀ (i : Nat) h, L[i]? = some h → C i = repL h.n (markT h.num)) (hl : ∀ (i : Nat) h, L[i]? = some h → h.long = .slice none 0 0) : GrowT B W tv L L 0 :=
  ⟨rfl, fun j hd hj => ⟨hd, hj, rfl, rfl, rfl⟩, h.row, fun j hd hj => by omega, fun j hd _ hj => ⟨hl j hd hj, by rw [← hc j hd hj]; exact h.own j hd hj⟩, h.sep, fun j k hd hd' g hj => by omega, fun j hd g hj hg => ⟨h.apart ⟨j, hd, hj, hg⟩, by obtain ⟨cl, hb⟩ := own_ty (h.own j hd hj) hg; exact lt_of_blk hb⟩⟩
theorem GrowT.step (h : GrowT B W tv L L' i) {v lv : Value} {n num : Nat} (hi : L'[i]? = some ⟨v, .slice none 0 0, n, num⟩) (u : Upd (fun g => v.ownBlock = some g) W W2) (ho : W2.ownsRow B 9 1 lv (n + 70) (repL (n + 70) (markT num)))
    (hl : lv.ownBlock = v.ownBlock ∨ ∃ g, lv.ownBlock = some g ∧ W.heap.size ≤ g) (hr : ReadV W2 v n (markT num)) {tg : Nat} (ht : tv.ownBlock = some tg) : GrowT B (W2.setCell ⟨tg, i * 3 + 1, none⟩ lv) tv L (L'.set i ⟨v, lv, n, num⟩) (i + 1) := by
  have hil : i < L'.length := (List.getElem?_eq_some_iff.1 hi).1
  have U3 : Upd (one tg) W2 (W2.setCell ⟨tg, i * 3 + 1, none⟩ lv) := (Upd.refl (one tg) W2).setCell (p := ⟨tg, i * 3 + 1, none⟩) (.inr rfl) lv
  have vrow := (h.rest i _ (Nat.le_refl _) hi).2
  have hvt : ∀ g, v.ownBlock = some g → tg ≠ g := fun g hg e => (h.rsep i _ g hi hg).1 (e ▸ ht)
  have row2 : W2.ownsRow B 111 3 tv L'.length (heldsL L') := ownsRow_upd h.row u (fun g hg hs => (h.rsep i _ g hi hs).1 hg)
  have get : ∀ (j : Nat) hd, (L'.set i ⟨v, lv, n, num⟩)[j]? = some hd → (j = i ∧ hd = ⟨v, lv, n, num⟩) ∨ (j ≠ i ∧ L'[j]? = some hd) := fun j hd hj => by
    rw [List.getElem?_set] at hj
    split at hj
    · rename_i e
      exact .inl ⟨e.symm, (Option.some.inj hj).symm⟩
    · rename_i e
      exact .inr ⟨fun e2 => e e2.symm, hj⟩
  have lt2 : ∀ {m : Nat} {x : Value} {xs : List Value} {Bx : Nat} {g : Nat}, W.ownsRow Bx 9 1 x m xs → x.ownBlock = some g → g < W.heap.size := fun hx hg => by
    obtain ⟨cl, hb⟩ := own_ty hx hg; exact lt_of_blk hb
  refine ⟨by rw [List.length_set]; exact h.len, fun j hd hj => ?_, ?_, fun j hd hj hjd => ?_, fun j hd hj hjd => ?_, fun j k hd hd' g hj hk hne hg => ?_, fun j k hd hd' g hji hj hk hne hg => ?_, fun j hd g hj hg => ?_⟩
  · obtain ⟨h', e1, e2, e3, e4⟩ := h.same j hd hj
    by_cases e : j = i
    · subst e
      rw [hi] at e1
      cases e1
      exact ⟨⟨v, lv, n, num⟩, by rw [List.getElem?_set_self hil], e2, e3, e4⟩
    · exact ⟨h', by rw [List.getElem?_set_ne (fun e5 => e e5.symm)]; exact e1, e2, e3, e4⟩
  · have := own_set row2 ht (i * 3 + 1) lv
    rw [heldsL_long L' i _ lv hi] at this
    rw [List.length_set]
    exact this
  · rcases get j hd hjd with ⟨e, rfl⟩ | ⟨e, hjd⟩
    · refine ⟨ownsRow_upd ho U3 (fun g hg e2 => ?_), hr.upd U3 (fun g hg e2 => hvt g hg e2.symm)⟩
      obtain rfl : g = tg := e2
      exact own_apart ho row2 (by decide) hg ht
    · obtain ⟨d1, d2⟩ := h.done j hd (by omega) hjd
      have d1' := ownsRow_upd d1 u (fun g hg hs => (h.sepl j i hd _ g (by omega) hjd hi e hg).1 hs)
      refine ⟨ownsRow_upd d1' U3 (fun g hg e2 => ?_), (d2.upd u (fun g hg hs => h.sepv j i hd _ g hjd hi e hg hs)).upd U3 (fun g hg e2 => ?_)⟩
      · obtain rfl : g = tg := e2
        exact own_apart d1' row2 (by decide) hg ht
      · obtain rfl : g = tg := e2
        exact (h.rsep j hd g hjd hg).1 ht
  · rcases get j hd hjd with ⟨e, rfl⟩ | ⟨e, hjd⟩
    · omega
    · obtain ⟨d1, d2⟩ := h.rest j hd (by omega) hjd
      refine ⟨d1, ownsRow_upd (ownsRow_upd d2 u (fun g hg hs => h.sepv j i hd _ g hjd hi e hg hs)) U3 (fun g hg e2 => ?_)⟩
      obtain rfl : g = tg := e2
      exact (h.rsep j hd g hjd hg).1 ht
  · rcases get j hd hj with ⟨e, rfl⟩ | ⟨e, hj⟩ <;> rcases get k hd' hk with ⟨e', rfl⟩ | ⟨e', hk⟩
    · omega
    · exact h.sepv i k _ hd' g hi hk (fun e3 => e' e3.symm) hg
    · exact h.sepv j i hd ⟨v, .slice none 0 0, n, num⟩ g hj hi e hg
    · exact h.sepv j k hd hd' g hj hk hne hg
  · rcases get j hd hj with ⟨e, rfl⟩ | ⟨e, hj⟩ <;> rcases get k hd' hk with ⟨e', rfl⟩ | ⟨e', hk⟩
    · omega
    · rcases hl with hl | ⟨g', hg', hge⟩
      · have hvg : v.ownBlock = some g := by rw [← hl]; exact hg
        exact ⟨h.sepv i k _ hd' g hi hk (fun e3 => e' e3.symm) hvg, fun hk2 hg2 => (h.sepl k i hd' _ g (by omega) hk hi e' hg2).1 hvg⟩
      · have hgg : g' = g := Option.some.inj (hg'.symm.trans hg)
        subst hgg
        refine ⟨fun hg2 => ?_, fun hk2 hg2 => ?_⟩
        · have := (h.rsep k hd' g' hk hg2).2; omega
        · have := lt2 (h.done k hd' (by omega) hk).1 hg2; omega
    · have hji2 : j < i := by omega
      refine ⟨(h.sepl j i hd _ g hji2 hj hi e hg).1, fun _ hg2 => ?_⟩
      rcases hl with hl | ⟨g', hg', hge⟩
      · exact (h.sepl j i hd _ g hji2 hj hi e hg).1 (by show v.ownBlock = some g; rw [← hl]; exact hg2)
      · have hgg : g' = g := Option.some.inj (hg'.symm.trans hg2)
        subst hgg
        have := lt2 (h.done j hd hji2 hj).1 hg; omega
    · exact ⟨(h.sepl j k hd hd' g (by omega) hj hk hne hg).1, fun hk2 => (h.sepl j k hd hd' g (by omega) hj hk hne hg).2 (by omega)⟩
  · have hsz : W.heap.size ≤ (W2.setCell ⟨tg, i * 3 + 1, none⟩ lv).heap.size := Nat.le_trans u.size U3.size
    rcases get j hd hj with ⟨e, rfl⟩ | ⟨e, hj⟩
    · exact ⟨(h.rsep i _ g hi hg).1, Nat.lt_of_lt_of_le (h.rsep i _ g hi hg).2 hsz⟩
    · exact ⟨(h.rsep j hd g hj hg).1, Nat.lt_of_lt_of_le (h.rsep j hd g hj hg).2 hsz⟩
end
/-- A row of one cell. -/
theorem wpList_build1 {P : Program} {w : World} {ops : Array Oper} {rest : List Oper} {o : Oper} {a : Act} {Q : Exit → Act → World → Prop} (hg : o.guard = none) (t e : TypeId) (y : Operand) (ho : o.op = .buildSlice t 1 #[(0, y)])
    (v : Value) (hy : a.eval y = v) (hu : P.underlying t = some (.slice e)) (ie : TypeInfo) (z : Value) (hie : P.info? e = some ie) (hz : ie.zero = some z) (hs : ie.size = 1) (hv : v.cells = #[v])
    (h : wpList P ops Q rest (a.put o.dst (.slice (some ⟨w.heap.size, 0, none⟩) 1 1)) (w.alloc (.cells #[v] e))) : wpList P ops Q (o :: rest) a w := by
  refine wpList_buildSlice hg t e 1 _ ho #[v] ie z hu hie hz (by rw [hs]; omega) (by rw [hs]; omega) ?_ h
  simp only [List.map_toArray, List.map_cons, List.map_nil, hy, Instr.fill, hs, Nat.zero_mul, Nat.one_mul, hv]
  rw [if_neg (by simp)]
  have := fold_all [v] ((Array.range 1).map (z.cells[· % z.cells.size]!)) (by simp)
  simpa using this
/-- What the inner loop keeps: a longer list out of v. -/
structure LongT (B : Nat) (W0 W : World) (v lv : Value) (n num k : Nat) : Prop where
  own : W.ownsRow B 9 1 lv (n + k) (repL (n + k) (markT num))
  blk : lv.ownBlock = v.ownBlock ∨ ∃ g, lv.ownBlock = some g ∧ W0.heap.size ≤ g
  upd : Upd (fun g => v.ownBlock = some g) W0 W
  read : ReadV W v n (markT num)
  vlt : ∀ g, v.ownBlock = some g → g < W0.heap.size
theorem LongT.ext {B : Nat} {W0 W W2 : World} {v lv : Value} {n num k : Nat} (h : LongT B W0 W v lv n num k) (u : Ext W W2) : LongT B W0 W2 v lv n num k :=
  ⟨ownsRow_upd h.own u (fun _ _ e => e), h.blk, h.upd.thenExt u, h.read.ext u, h.vlt⟩
theorem own_addr {W : World} {B : Nat} {e : TypeId} {size : Nat} {v : Value} {n : Nat} {xs : List Value} (h : W.ownsRow B e size v n xs) {g : Nat} (hg : v.ownBlock = some g) : ∃ cap, v = .slice (some ⟨g, 0, none⟩) n cap := by
  rcases h.2 with ⟨hv, _⟩ | ⟨g', cap, cur, hv, _⟩
  · rw [hv] at hg; cases hg
  · rw [hv] at hg
    obtain rfl : g' = g := by simpa [Value.ownBlock] using hg
    exact ⟨cap, hv⟩
theorem LongT.app {B : Nat} {W0 W W2 : World} {v lv lv2 : Value} {n num k : Nat} (h : LongT B W0 W v lv n num k) (ho : W2.ownsRow B 9 1 lv2 (n + k + 1) (repL (n + k) (markT num) ++ markT num)) (hg : W.grownBy W2 lv.ownBlock)
    (hb : lv2.ownBlock = lv.ownBlock ∨ (lv2.ownBlock = some W.heap.size ∧ Ext W W2)) : LongT B W0 W2 v lv2 n num (k + 1) := by
  have ho2 : W2.ownsRow B 9 1 lv2 (n + (k + 1)) (repL (n + (k + 1)) (markT num)) := by
    rw [← Nat.add_assoc, repL_succ]; exact ho
  refine ⟨ho2, ?_, ?_, ?_, h.vlt⟩
  · rcases hb with e | ⟨e, _⟩
    · rw [e]; exact h.blk
    · exact .inr ⟨_, e, h.upd.size⟩
  · refine h.upd.grown hg (fun g hg2 => ?_)
    rcases h.blk with e | ⟨g', e, hge⟩
    · exact .inr (by rw [← e]; exact hg2)
    · rw [e] at hg2; cases hg2; exact .inl hge
  · rcases hb with e | ⟨_, u⟩
    · rcases h.blk with e2 | ⟨g', e2, hge⟩
      · obtain ⟨a, capv, rfl, hk⟩ := h.read
        by_cases hn : n = 0
        · subst hn; exact ⟨a, capv, rfl, fun k hk => by omega⟩
        · obtain ⟨g, ha, _⟩ := hk 0 (by omega)
          subst ha
          have e3 : lv2.ownBlock = some g := by rw [e, e2]; rfl
          obtain ⟨cap2, hv2⟩ := own_addr ho2 e3
          subst hv2
          exact own_read ho2
      · refine h.read.upd (S := fun g => lv.ownBlock = some g) ((Upd.refl _ W).grown hg (fun g hg2 => .inr hg2)) (fun g hg2 hs => ?_)
        have := h.vlt g hg2
        rw [e2] at hs; cases hs; omega
    · exact h.read.ext u

set_option maxRecDepth 8000 in
set_option maxHeartbeats 4000000 in
theorem growT_any {B b : Nat} {W : World} {tv : Value} {L : List HeldD} (hb : W.cell? ⟨b, 3, none⟩ = some tv) (hbB : ¬ listBs L b) (hbt : tv.ownBlock ≠ some b) (H : GrowT B W tv L L 0) (T : Tab10 W) (hTB : ¬ listBs L 17) (hTt : tv.ownBlock ≠ some 17)
    (hB : B ≤ W.heap.size) (hn : L.length ≤ 4000000) (hnn : ∀ (i : Nat) h, L[i]? = some h → h.n ≤ 1000000000 ∧ h.num ≤ 1000000000) :
    Calls Tryz.prog 56 #[.pointer (some ⟨b, 0, none⟩)] W fun e W' => e = .returned (.tuple #[]) ∧ (∃ L', GrowT B W' tv L L' L.length) ∧ Upd (fun g => listBs L g ∨ tv.ownBlock = some g) W W' := by
  obtain ⟨j0, hj0, hjz0, hjz1, hjz2⟩ := info_parts info_string
  obtain ⟨ta, tcap, rfl⟩ := own_slice H.row
  have HB := Lib.hid hb
  have HBB := Lib.hid (show ¬ (listBs L b ∨ (Value.slice ta L.length tcap).ownBlock = some b) from fun h => h.elim hbB hbt)
  have HH0 := Lib.hid H
  have HT0 := Lib.hid T
  have HTB := Lib.hid (show ¬ (listBs L 17 ∨ (Value.slice ta L.length tcap).ownBlock = some 17) from fun h => h.elim hTB hTt)
  have HNN := Lib.hid hnn
  have HB00 := Lib.hid hB
  clear hbB hbt H T hTB hTt hnn hB
  go_enter Tryz.func56, Tryz.ntmps56
  go_wp2_with fail
  go_loopw [2] (fun iv wr => ∃ (i : Nat) (L' : List HeldD), iv = .int .i64 i ∧ i ≤ L.length ∧ GrowT B wr (.slice ta L.length tcap) L L' i ∧ Upd (fun g => listBs L g ∨ (Value.slice ta L.length tcap).ownBlock = some g) W wr) (fun iv _ => L.length - (RowKit.intOf iv).toNat)
  case atStart => exact ⟨0, L, rfl, Nat.zero_le _, HH0.out, Upd.refl _ _⟩
  case round =>
    obtain ⟨i, L', rfl, hi1, hh, hu⟩ := hrel
    have HH := Lib.hid hh
    have HU := Lib.hid hu
    have cb : wr.cell? ⟨b, 3, none⟩ = some (.slice ta L.length tcap) := (Upd.cell hu (lt_of_cell HB.out) HBB.out).trans HB.out
    by_cases hlt : i < L.length
    · have hil' : i < L'.length := by rw [hh.len]; exact hlt
      have hi := List.getElem?_eq_getElem hil'
      generalize L'[i] = hd at hi
      obtain ⟨tg, tcap2, tcl, htv, _, htb, htc⟩ := own_at hh.row (by omega)
      rw [hh.len] at htv
      simp only [Value.slice.injEq, true_and] at htv
      obtain ⟨rfl, rfl⟩ := htv
      have HROW := Lib.hid (fun (j : Nat) (u : Value) (hu : (heldL hd)[j]? = some u) => show wr.cell? ⟨tg, i * 3 + j, none⟩ = some u by
        rw [cell_of_blk htb]
        refine htc _ _ ?_
        rw [heldsL_at L' i j hd hi (List.getElem?_eq_some_iff.1 hu).1]; exact hu)
      obtain ⟨hr1, hr2⟩ := hh.rest i hd (Nat.le_refl _) hi
      obtain ⟨va, vcap, hv⟩ := own_slice hr2
      obtain ⟨h0, hL0⟩ : ∃ h0, L[i]? = some h0 := ⟨_, List.getElem?_eq_getElem hlt⟩
      obtain ⟨h', e1, e2, e3, e4⟩ := hh.same i h0 hL0
      rw [hi] at e1
      cases e1
      obtain ⟨hn1, hn2⟩ := HNN.out i _ hL0
      rw [← e3] at hn1
      rw [← e4] at hn2
      have HLB := Lib.hid (show ∀ g, hd.v.ownBlock = some g → listBs L g from fun g hg => ⟨i, h0, hL0, by rw [← e2]; exact hg⟩)
      obtain ⟨v, long, n, num⟩ := hd
      simp only at hv hr1 hr2 hn1 hn2
      subst hv
      subst hr1
      have HNM := Lib.hid hn2
      have HI := Lib.hid hi
      have hlti : (i : Int) < L.length := by omega
      have hpb := blk_alloc wr (.cells #[.slice va n vcap, .slice none 0 0, .int .i64 num] 111)
      have HX1 := Lib.hid ((Upd.refl none' wr).alloc (.cells #[.slice va n vcap, .slice none 0 0, .int .i64 num] 111))
      have HPB0 := Lib.hid hpb
      have HRD := Lib.hid (show ReadV wr (.slice va n vcap) n (markT num) by
        refine ⟨va, vcap, rfl, fun k hk => ?_⟩
        obtain ⟨g, cap', cl, hv2, _, hg2, hc2⟩ := own_at hr2 (by show 0 < n; omega)
        simp only [Value.slice.injEq] at hv2
        refine ⟨g, hv2.1, fun j u hu => ?_⟩
        rw [cell_of_blk hg2]
        refine hc2 _ u ?_
        unfold repL
        rw [flat_rep _ _ _ _ hk (List.getElem?_eq_some_iff.1 hu).1]
        exact hu)
      have HVL := Lib.hid (show ∀ g, (Value.slice va n vcap).ownBlock = some g → g < wr.heap.size ∧ tg ≠ g from fun g hg => ⟨(hh.rsep i _ g hi hg).2, fun e => (hh.rsep i _ g hi hg).1 (by rw [← e]; rfl)⟩)
      have HLG := Lib.hid (LongT.mk (B := B) (W0 := wr.alloc (.cells #[.slice va n vcap, .slice none 0 0, .int .i64 num] 111)) (W := wr.alloc (.cells #[.slice va n vcap, .slice none 0 0, .int .i64 num] 111)) (v := .slice va n vcap) (lv := .slice va n vcap) (n := n) (num := num) (k := 0) (ownsRow_upd hr2 HX1.out (fun _ _ e => e)) (.inl rfl) (Upd.refl _ _) (HRD.out.ext HX1.out) (fun g hg => by have := (HVL.out g hg).1; rw [World.size_alloc]; omega))
      have HTBW := Lib.hid (HT0.out.upd hu HTB.out)
      have HBW := Lib.hid (Nat.le_trans HB00.out hu.size)
      have HTGI := Lib.hid htb
      have HTGC := Lib.hid (show i * 3 + 1 < tcl.size from (List.getElem?_eq_some_iff.1 (by
        have := htc (i * 3 + 1) (.slice none 0 0) (by rw [heldsL_at L' i 1 _ hi (by omega)]; rfl)
        rw [← Array.getElem?_toList] at this; exact this)).1)
      clear hh hu hi htb htc hpb hn2 hr2 hil' e2 e3 e4 hL0
      go_wp2_with (refine wpList_loadAgg rfl 111 _ rfl tg (i * 3) (by go_simp; all_goals exact rfl) [.slice va n vcap, .slice none 0 0, .int .i64 num] Tryz.underlying111 rfl held_size HROW.out ?_)
      have HT1 := Lib.hid (HTBW.out.ext HX1.out)
      have HG1 := Lib.hid (HH.out.ext HX1.out)
      have HU1 := Lib.hid (HU.out.thenExt HX1.out)
      have HTG1 := Lib.hid (Ext.blk HX1.out HTGI.out)
      have HBW1 := Lib.hid (Nat.le_trans HBW.out HX1.out.size)
      clear HTBW HBW HTGI HRD HX1 HH HU cb HROW
      generalize hhb : wr.heap.size = hb at *
      generalize hW1 : wr.alloc (.cells #[.slice va n vcap, .slice none 0 0, .int .i64 num] 111) = W1 at *
      go_loopw [4, 5] (fun lv kv wr2 => ∃ (k : Nat), kv = .int .i64 k ∧ k ≤ 70 ∧ LongT B W1 wr2 (.slice va n vcap) lv n num k) (fun _ kv _ => 70 - (RowKit.intOf kv).toNat)
      case atStart => exact ⟨0, rfl, Nat.zero_le _, HLG.out⟩
      case round =>
        obtain ⟨k, rfl, hk1, hl⟩ := hrel
        have HL := Lib.hid hl
        have hpb2 := hl.upd.blk HPB0.out (fun hs => by have := (HVL.out _ hs).1; omega)
        have c2 := cell_of_blk hpb2 2
        simp only [List.size_toArray, List.getElem?_toArray, List.getElem?_cons_zero, List.getElem?_cons_succ] at c2
        have HT2 := Lib.hid (HT1.out.upd hl.upd (fun hs => HTB.out (.inl (HLB.out _ hs))))
        by_cases hk : k < 70
        · have CM := markText_any num HNM.out HT2.out
          have HM := Lib.hid (show n + k + 1 ≤ maxLen ∧ (n + k + 1) * 16 ≤ 140737488355328 by unfold maxLen; omega)
          have HB2 := Lib.hid (Nat.le_trans HBW1.out hl.upd.size)
          have HMO : Hid (∀ u ∈ markT num, u.oneCell' = true) := Lib.hid (fun u hu => by rw [List.mem_singleton.1 hu]; rfl)
          have hki : (k : Int) < 70 := by omega
          clear hl hpb2
          go_wp2_with fail
          refine CM.mono ?_
          rintro e w5 ⟨rfl, u⟩
          have HX6 := Lib.hid ((Upd.refl none' w5).alloc (.cells #[.string (str (wordL num))] 9))
          have HL6 := Lib.hid ((HL.out.ext u).ext HX6.out)
          have HB6 := Lib.hid (Nat.le_trans (Nat.le_trans HB2.out u.size) HX6.out.size)
          have hb6 := blk_alloc w5 (.cells #[.string (str (wordL num))] 9)
          have HN6 := Lib.hid (fun (j : Nat) (u : Value) (hu : (markT num)[j]? = some u) => show World.cell? _ ((⟨w5.heap.size, 0, none⟩ : Addr).add j) = some u from by rw [show (⟨w5.heap.size, 0, none⟩ : Addr).add j = ⟨w5.heap.size, j, none⟩ from by unfold Addr.add; split <;> simp_all, cell_of_blk hb6]; simpa using hu)
          clear u CM hb6
          go_wp2_with (first
            | (refine wpList_build1 rfl 86 9 _ rfl (.string (str (wordL num))) rfl Tryz.underlying86 j0 (.string ⟨#[]⟩) hj0 hjz0 hjz1 rfl ?_)
            | (at_builtin; go_must (refine wpList_app2 rfl _ _ 86 rfl B 9 j0 (.string ⟨#[]⟩) 1 16 Tryz.underlying86 hj0 hjz0 hjz1 hjz2 rfl (by decide) u4 _ _ rfl HL6.out.own ⟨w5.heap.size, 0, none⟩ 1 1 (markT num) rfl rfl HN6.out HMO.out HM.out.1 HM.out.2 HB6.out ?_)))
          intro v' w7 ho hg hbl
          have HL7 := Lib.hid (HL6.out.app ho hg (by rw [World.size_alloc]; exact hbl))
          clear ho hg hbl
          go_wp2_with fail
          exact ⟨⟨k + 1, by simp, by omega, HL7.out⟩, by simp [RowKit.intOf]; omega⟩
        · obtain rfl : k = 70 := by omega
          obtain ⟨la, lcap, hlv⟩ := own_slice hl.own
          subst hlv
          have hu2 := HU1.out.then hl.upd (fun g _ hs => .inl (HLB.out g hs))
          have cb : wr.cell? ⟨b, 3, none⟩ = some (.slice (some ⟨tg, 0, none⟩) L.length tcap) := (Upd.cell hu2 (lt_of_cell HB.out) HBB.out).trans HB.out
          have htg2 := hl.upd.blk HTG1.out (fun hs => (HVL.out _ hs).2 rfl)
          have f1 := free_of_blk htg2 (i * 3 + 1)
          have c1 : ∃ u, wr.cell? ⟨tg, i * 3 + 1, none⟩ = some u := by rw [cell_of_blk htg2]; exact ⟨_, Array.getElem?_eq_getElem HTGC.out⟩
          obtain ⟨u1, c1⟩ := c1
          have HG2 := Lib.hid (HG1.out.step HI.out hl.upd hl.own hl.blk hl.read (tg := tg) rfl)
          have HU2 := Lib.hid (hu2.setCell (p := ⟨tg, i * 3 + 1, none⟩) (.inr (.inr rfl)) (.slice la (n + 70) lcap))
          clear hl hpb2 hu2 htg2 c2
          go_wp2_with fail
          exact ⟨⟨i + 1, _, by simp, by omega, HG2.out, HU2.out⟩, by simp [RowKit.intOf]; omega⟩
    · obtain rfl : i = L.length := by omega
      clear hh hu
      go_wp2_with fail
      go_end0
      exact ⟨rfl, ⟨L', HH.out⟩, HU.out⟩
end Go.Proofs.YtdkhnkhflbefbaaGreatDoor
