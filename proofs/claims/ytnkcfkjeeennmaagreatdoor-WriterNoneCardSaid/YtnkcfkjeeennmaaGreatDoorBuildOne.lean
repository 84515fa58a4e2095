/- A slice of one struct or array, built: of no program. writer.peaks by contract. math/bits.OnesCount64 of small numbers. -/
import Derived.Test.YtnkcfkjeeennmaaGreatDoorCode
import Derived.Great.BuildSlice
import Derived.Test.YtnkcfkjeeennmaaGreatDoorTileH
import Derived.Laws.BitsAllLaws
namespace Go.Proofs.YtnkcfkjeeennmaaGreatDoor
open Go.RowKit Go.Lib


theorem fold_zip (l : List Value) : ∀ (k : Nat) (z : Array Value) (n : Nat), z.size = n → k + l.length ≤ n →
    let r := (l.zipIdx k).foldl (fun cs (x : Value × Nat) => cs.setIfInBounds (0 + x.2) x.1) z
    r.size = n ∧ ∀ i, r[i]? = if k ≤ i ∧ i < k + l.length then l[i - k]? else z[i]? := by
  induction l with
  | nil =>
    intro k z n hz _
    refine ⟨hz, fun i => ?_⟩
    rw [if_neg (by simp only [List.length_nil]; omega)]; rfl
  | cons v l ih =>
    intro k z n hz hk
    simp only [List.length_cons] at hk
    have h := ih (k + 1) (z.setIfInBounds (0 + k) v) n (by simpa using hz) (by omega)
    refine ⟨h.1, fun i => ?_⟩
    have h2 := h.2 i
    simp only [List.zipIdx_cons, List.foldl_cons] at h2 ⊢
    rw [h2]
    by_cases h1 : k + 1 ≤ i ∧ i < k + 1 + l.length
    · rw [if_pos h1, if_pos (by simp only [List.length_cons]; omega), show i - k = (i - (k + 1)) + 1 by omega, List.getElem?_cons_succ]
    · rw [if_neg h1]
      by_cases h3 : i = k
      · subst h3
        rw [if_pos (by simp only [List.length_cons]; omega), Nat.sub_self, List.getElem?_cons_zero, Nat.zero_add, Array.getElem?_setIfInBounds_self_of_lt (by omega)]
      · rw [if_neg (by simp only [List.length_cons]; omega), Nat.zero_add, Array.getElem?_setIfInBounds_ne (by omega)]
theorem fold_all (l : List Value) (z : Array Value) (hz : z.size = l.length) : l.toArray.zipIdx.foldl (fun cs (x : Value × Nat) => cs.setIfInBounds (0 + x.2) x.1) z = l.toArray := by
  rw [← Array.foldl_toList, Array.toList_zipIdx]
  obtain ⟨h1, h2⟩ := fold_zip l 0 z l.length hz (by omega)
  apply Array.ext_getElem?
  intro i
  have := h2 i
  simp only at this h1 ⊢
  rw [this]
  by_cases hi : i < l.length
  · rw [if_pos (by omega), Nat.sub_zero]; simp
  · have a1 : z[i]? = none := Array.getElem?_eq_none (by omega)
    have a2 : l.toArray[i]? = none := Array.getElem?_eq_none (by rw [List.size_toArray]; omega)
    rw [if_neg (by omega), a1, a2]
/-- A row of one struct. -/
theorem wpList_buildOne {P : Program} {w : World} {ops : Array Oper} {rest : List Oper} {o : Oper} {a : Act} {Q : Exit → Act → World → Prop} (hg : o.guard = none) (t e : TypeId) (y : Operand) (ho : o.op = .buildSlice t 1 #[(0, y)])
    (vs : List Value) (hy : a.eval y = .agg vs.toArray) (hu : P.underlying t = some (.slice e)) (hi : (P.info? e).map (·.size) = some vs.length) (hz : ((P.info? e).bind (·.zero)).isSome = true) (hpos : 0 < vs.length) (hsmall : vs.length ≤ 16777216)
    (h : wpList P ops Q rest (a.put o.dst (.slice (some ⟨w.heap.size, 0, none⟩) 1 1)) (w.alloc (.cells vs.toArray e))) : wpList P ops Q (o :: rest) a w := by
  cases hie : P.info? e with
  | none => simp [hie] at hi
  | some ie =>
    simp only [hie, Option.map_some, Option.some.injEq, Option.bind_some] at hi hz
    obtain ⟨z, hzz⟩ := Option.isSome_iff_exists.1 hz
    refine wpList_buildSlice hg t e 1 _ ho vs.toArray ie z hu hie hzz (by rw [hi]; omega) (by rw [hi]; omega) ?_ h
    simp only [List.map_toArray, List.map_cons, List.map_nil, hy, Instr.fill, Value.cells, hi, Nat.zero_mul, Nat.one_mul]
    rw [if_neg (by simp), fold_all _ _ (by simp)]

/-- A slice of slices of hashes. -/
def EdAt (w : World) (A : Option Addr) (es : List (List HB)) : Prop :=
  ∀ (k : Nat) (e : List HB), es[k]? = some e → ∃ g o a cap, A = some ⟨g, o, none⟩ ∧ w.cell? ⟨g, o + k, none⟩ = some (.slice a e.length cap) ∧ e.length ≤ cap ∧ CellsAt w a (hcells e) ∧ (a = none ∨ ∃ g2 o2, a = some ⟨g2, o2, none⟩)
theorem EdAt.ext {w w' : World} {A : Option Addr} {es : List (List HB)} (h : EdAt w A es) (u : Ext w w') : EdAt w' A es := fun k e he => by
  obtain ⟨g, o, a, cap, h1, h2, h3, h4, h5⟩ := h k e he
  exact ⟨g, o, a, cap, h1, u.cellv h2, h3, h4.ext u, h5⟩
theorem EdAt.upd {S : Nat → Prop} {w w' : World} {A : Option Addr} {es : List (List HB)} (h : EdAt w A es) (u : Upd S w w') (hS : ∀ g, g < w.heap.size → ¬ S g) : EdAt w' A es := h.ext (u.mono (fun g hg hs => (hS g hg hs).elim))
def E32 (es : List (List HB)) : Prop := ∀ e ∈ es, H32 e ∧ e.length < 256
theorem and_tab : ((List.range 256).all fun l => (List.range 8).all fun i => (l &&& 2 ^ i) == (if l / 2 ^ i % 2 = 1 then 2 ^ i else 0)) = true := by kernel_rfl
theorem and_bit (l i : Nat) (hl : l < 256) (hi : i < 8) : bits .and .i64 (l : Int) ((2 ^ i : Nat) : Int) = ((if l / 2 ^ i % 2 = 1 then 2 ^ i else 0 : Nat) : Int) := by
  have h := List.all_eq_true.1 (List.all_eq_true.1 and_tab l (List.mem_range.2 hl)) i (List.mem_range.2 hi)
  have h2 : l &&& 2 ^ i = (if l / 2 ^ i % 2 = 1 then 2 ^ i else 0) := by simpa using h
  have hp := pow_le i (by omega)
  have h3 : (l &&& 2 ^ i) < 9223372036854775808 := Nat.lt_of_le_of_lt Nat.and_le_left (by omega)
  have e : bits .and .i64 (l : Int) ((2 ^ i : Nat) : Int) = ((l &&& 2 ^ i : Nat) : Int) := by
    show IntKind.i64.wrap ((BitVec.ofInt 64 (l : Int) &&& BitVec.ofInt 64 ((2 ^ i : Nat) : Int)).toNat : Int) = _
    rw [BitVec.toNat_and, BitVec.ofInt_natCast, BitVec.ofInt_natCast, BitVec.toNat_ofNat, BitVec.toNat_ofNat, Nat.mod_eq_of_lt (by omega), Nat.mod_eq_of_lt (by omega)]
    exact IntWalk.i64_in _ (by omega)
  rw [e, h2]
theorem bit_hi {L q c : Nat} (hc : 0 < c) (hq : q % (2 * c) = 0) (hL : q ≤ L) (hr : L - q < 2 * c) : L / c % 2 = if c ≤ L - q then 1 else 0 := by
  obtain ⟨t, ht⟩ := Nat.dvd_of_mod_eq_zero hq
  have e : L = (L - q) + c * (2 * t) := by
    have : c * (2 * t) = 2 * c * t := by rw [Nat.mul_comm 2 c, Nat.mul_assoc]
    omega
  rw [e, Nat.add_mul_div_left _ _ hc]
  have h2 : L - q + c * (2 * t) - q = L - q := by omega
  rw [h2]
  by_cases h : c ≤ L - q
  · rw [if_pos h]
    have : (L - q) / c = 1 := Nat.div_eq_of_lt_le (by omega) (by omega)
    omega
  · rw [if_neg h, Nat.div_eq_of_lt (by omega)]
    omega
def bitOf (j : Nat) : Nat := 2 ^ j / 2
theorem bitOf_succ (j : Nat) : bitOf (j + 1) = 2 ^ j := by unfold bitOf; rw [Nat.pow_succ]; omega
theorem bitOf_half (j : Nat) : bitOf (j + 1) / 2 = bitOf j := by rw [bitOf_succ]; rfl
def PkRel (B : Nat) (es : List (List HB)) (w : World) (v kv : Value) (wr : World) : Prop :=
  ∃ (k : Nat) (i : Int), k ≤ es.length ∧ i = (k : Int) - 1 ∧ kv = .int .i64 i ∧ wr.ownsRow B 30 32 v (peaksE nodeH (es.drop k)).length (hcells (peaksE nodeH (es.drop k))) ∧ Upd (fun g => B ≤ g) w wr
def PjRel (B : Nat) (e : List HB) (P0 : List HB) (w : World) (v av nv : Value) (wr : World) : Prop :=
  ∃ (j a : Nat) (acc : List HB), j ≤ 8 ∧ nv = .int .i64 (bitOf j) ∧ av = .int .i64 a ∧ a ≤ e.length ∧ a % 2 ^ j = 0 ∧ e.length - a < 2 ^ j ∧ acc ++ pkD nodeH j (e.drop a) = P0 ++ pkD nodeH 8 e ∧ acc.length ≤ P0.length + 8 - j ∧ H32 acc ∧
    wr.ownsRow B 30 32 v acc.length (hcells acc) ∧ Upd (fun g => B ≤ g) w wr
theorem pkD_len (j : Nat) : ∀ l : List HB, (pkD nodeH j l).length ≤ j := by
  induction j with
  | zero => intro l; simp [pkD]
  | succ j ih =>
    intro l
    rw [pkD]
    split
    · have := ih (l.drop (2 ^ j)); simp; omega
    · have := ih l; omega
theorem whole_len (k : Nat) : ∀ l : List HB, H32 l → 2 ^ k ≤ l.length → (whole nodeH k l).length = 32 := by
  cases k with
  | zero =>
    intro l h hl
    cases l with
    | nil => simp at hl
    | cons x l => exact h x (by simp)
  | succ k => intro l h hl; exact nodeH_len _ _
theorem pkD_32 (j : Nat) : ∀ l : List HB, H32 l → H32 (pkD nodeH j l) := by
  induction j with
  | zero => intro l _; exact H32.nil
  | succ j ih =>
    intro l h
    rw [pkD]
    split
    · rename_i hl
      exact H32.cons (whole_len j _ (h.take _) (by rw [List.length_take]; omega)) (ih _ (h.drop _))
    · exact ih l h
theorem peaksE_32 : ∀ es : List (List HB), E32 es → H32 (peaksE nodeH es) := by
  intro es
  induction es with
  | nil => intro _; exact H32.nil
  | cons e es ih => intro h; exact H32.app (ih (fun x hx => h x (by simp [hx]))) (pkD_32 8 e (h e (by simp)).1)
theorem peaksE_len : ∀ es : List (List HB), (peaksE nodeH es).length ≤ 8 * es.length := by
  intro es
  induction es with
  | nil => simp [peaksE]
  | cons e es ih => have := pkD_len 8 e; simp [peaksE]; omega
set_option maxRecDepth 20000 in
set_option maxHeartbeats 8000000 in
theorem peaks_any (w : World) (A : Option Addr) (es : List (List HB)) (cap : Nat) (hA : EdAt w A es) (h32 : E32 es) (hl : es.length ≤ 1024) (hG : 21 < w.heap.size) (htab : ShaTab w) :
    Calls Tryz.prog 42 #[.slice A es.length cap] w fun e w' => ∃ v, e = .returned v ∧ w'.ownsRow w.heap.size 30 32 v (peaksE nodeH es).length (hcells (peaksE nodeH es)) ∧ Ext w w' := by
  obtain ⟨i0, hi0, hz0, hz1, hz2⟩ := info_parts info_hash
  have HA := Lib.hid hA
  have H32' := Lib.hid h32
  have HT := Lib.hid htab
  have HG := Lib.hid hG
  have hli : (es.length : Int) ≤ 1024 := by omega
  clear hA h32 htab hG
  go_enter Tryz.func42, Tryz.ntmps42
  go_wp2_with fail
  go_loopw [3, 4] (fun v kv wr => PkRel w.heap.size es w v kv wr) (fun _ kv _ => (RowKit.intOf kv + 1).toNat)
  case atStart => exact ⟨es.length, _, Nat.le_refl _, rfl, rfl, by rw [List.drop_length]; exact World.ownsRow_nil _ _ _ _, Upd.refl _ _⟩
  case round =>
    obtain ⟨k, i, hk, hi, rfl, ho, hx⟩ := hrel
    have HO := Lib.hid ho
    have HX := Lib.hid hx
    have HI := Lib.hid hi
    by_cases hlt : 0 < k
    · obtain ⟨m, rfl⟩ : ∃ m, k = m + 1 := ⟨k - 1, by omega⟩
      have him : i = (m : Int) := by omega
      subst him
      have hml : m < es.length := by omega
      have hmi : (m : Int) < es.length := by omega
      obtain ⟨gA, oA, a, ec, rfl, hcell, hec, hE, hEa⟩ := HA.out m es[m] (List.getElem?_eq_getElem hml)
      have HP := Lib.hid (show peaksE nodeH (es.drop m) = peaksE nodeH (es.drop (m + 1)) ++ pkD nodeH 8 es[m] from by rw [List.drop_eq_getElem_cons hml]; rfl)
      obtain ⟨he32, hel⟩ := H32'.out es[m] (List.getElem_mem hml)
      have HPL := Lib.hid (show (peaksE nodeH (es.drop (m + 1))).length ≤ 8192 from by have := peaksE_len (es.drop (m + 1)); rw [List.length_drop] at this; omega)
      have HP32 := Lib.hid (peaksE_32 (es.drop (m + 1)) (fun x hx => H32'.out x (List.mem_of_mem_drop hx)))
      generalize es[m] = e at *
      generalize peaksE nodeH (es.drop (m + 1)) = P0 at *
      have HE32 := Lib.hid he32
      have HEL := Lib.hid hel
      have HCELL := Lib.hid hcell
      have HEC := Lib.hid hec
      have HE := Lib.hid hE
      have HEA := Lib.hid hEa
      clear ho hx hi he32 hel hcell hec hE hEa hk hlt
      go_wp2_with fail
      obtain ⟨w3, hw3⟩ : ∃ w3 : World, w3 = wr := ⟨_, rfl⟩
      subst hw3
      go_loopw [3, 5, 6] (fun v av nv wr => PjRel w.heap.size e P0 w v av nv wr) (fun _ _ nv _ => (RowKit.intOf nv).toNat)
      case atStart => exact ⟨8, 0, P0, by omega, rfl, rfl, Nat.zero_le _, rfl, by rw [Nat.sub_zero]; exact HEL.out, by rw [List.drop_zero], by omega, HP32.out, HO.out, HX.out⟩
      case round =>
        obtain ⟨j, q, acc, hj, rfl, rfl, hq, hqm, hqr, hacc, hal, ha32, ho2, hx2⟩ := hrel
        have HO2 := Lib.hid ho2
        have HX2 := Lib.hid hx2
        have HACC := Lib.hid hacc
        have HA32 := Lib.hid ha32
        have HAL := Lib.hid hal
        have HEX := Lib.hid (show Ext w wr from hx2.mono (fun g h1 h2 => by have h3 : w.heap.size ≤ g := h2; omega))
        obtain ⟨AV, cv, rfl⟩ := own_sl ho2
        clear ho2 hx2 hacc ha32 hal
        cases j with
        | zero =>
          have hn : ¬ (0 : Int) < (bitOf 0 : Nat) := by decide
          have hfin : acc = P0 ++ pkD nodeH 8 e := by
            have h := HACC.out
            have h0 : pkD nodeH 0 (e.drop q) = [] := rfl
            rw [h0, List.append_nil] at h
            exact h
          have HFIN := Lib.hid hfin
          clear hfin
          go_wp2_with fail
          exact ⟨⟨m, (m : Int) - 1, by omega, rfl, rfl, by rw [HP.out, ← HFIN.out]; exact HO2.out, HX2.out⟩, by simp [RowKit.intOf]⟩
        | succ j =>
          have hj7 : j ≤ 7 := by omega
          have hpl := pow_le j hj7
          have hh := bitOf_half j
          have hel := HEL.out
          have hand := and_bit e.length j hel (by omega)
          have hbh := bit_hi (L := e.length) (q := q) (c := 2 ^ j) (by omega) (by rw [← hqm, Nat.pow_succ, Nat.mul_comm]) hq (by rw [Nat.pow_succ] at hqr; omega)
          rw [hbh] at hand
          have hcell := Ext.cellv HEX.out HCELL.out
          have hqm2 : q % 2 ^ j = 0 := by
            have h1 : q % (2 ^ j * 2) = 0 := by rw [← Nat.pow_succ]; exact hqm
            obtain ⟨t, ht⟩ := Nat.dvd_of_mod_eq_zero h1
            rw [ht, Nat.mul_assoc]; exact Nat.mul_mod_right _ _
          have hpk : pkD nodeH (j + 1) (e.drop q) = if 2 ^ j ≤ (e.drop q).length then whole nodeH j ((e.drop q).take (2 ^ j)) :: pkD nodeH j ((e.drop q).drop (2 ^ j)) else pkD nodeH j (e.drop q) := rfl
          have C := fun (gb ob : Nat) (he : a = some ⟨gb, ob, none⟩) (hf : q + 2 ^ j ≤ e.length) => thash_any wr gb ob ec e HE32.out (by have := HE.out.ext HEX.out; rw [he] at this; exact this) (by omega) HEC.out q j hj7 hqm2 hf (by have := HG.out; have := HEX.out.size; omega) (HT.out.ext HEX.out)
          rw [List.length_drop] at hpk
          have hwt : whole nodeH j ((e.drop q).take (2 ^ j)) = whole nodeH j (e.drop q) := whole_take nodeH j _ _ (Nat.le_refl _)
          rw [hwt, List.drop_drop] at hpk
          have hwl := fun (h : q + 2 ^ j ≤ e.length) => whole_len j (e.drop q) (HE32.out.drop q) (by rw [List.length_drop]; omega)
          have hq2 : q + 2 ^ j ≤ e.length → (q + 2 ^ j) % 2 ^ j = 0 := fun _ => by rw [Nat.add_mod_right]; exact hqm2
          have hr2 : e.length - q < 2 * 2 ^ j := by rw [Nat.pow_succ] at hqr; omega
          rw [bitOf_succ] at hh ⊢
          generalize whole nodeH j (e.drop q) = x at *
          generalize hc : 2 ^ j = c at *
          have HACC2 := Lib.hid HACC.out
          rw [hpk] at HACC2
          have HC := Lib.hid C
          have HWL := Lib.hid hwl
          have HQ2 := Lib.hid hq2
          have HQM2 := Lib.hid hqm2
          have HCC := Lib.hid hc
          have hci : (0 : Int) < c := by omega
          have hdiv : (c : Int) / 2 = (bitOf j : Nat) := by omega
          have hc1 : (c : Int) ≤ 128 := by omega
          clear C hwl hq2 hqm2 hc hpk hbh hqm hqr hwt
          by_cases hhi : c ≤ e.length - q
          · rw [if_pos hhi] at hand HACC2
            simp only [if_true] at hand
            have hf : q + c ≤ e.length := by omega
            have hpos : 0 < e.length := by omega
            obtain ⟨gb, ob, rfl⟩ : ∃ gb ob, a = some ⟨gb, ob, none⟩ := by
              rcases HEA.out with h | ⟨g2, o2, h⟩
              · exfalso
                have hl0 : 0 < (hcells e).length := by rw [hcells_len HE32.out]; omega
                obtain ⟨ad, h2, _⟩ := HE.out 0 _ (List.getElem?_eq_getElem hl0)
                rw [h] at h2; cases h2
              · exact ⟨g2, o2, h⟩
            have C := HC.out gb ob rfl hf
            have hx32 := HWL.out hf
            have hne : ((c : Int) == 0) = false := by simp; omega
            have hcn : ¬ (c = 0) := by omega
            have HF := Lib.hid hf
            have HX32 := Lib.hid hx32
            have HSZ := Lib.hid (hash_size32 x hx32)
            have HO1 := Lib.hid (u8_ones x)
            have HZ := Lib.hid (show zero32.size = (x.map u8v).length by rw [List.length_map, hx32]; rfl)
            have hqi : (q : Int) + c ≤ 256 := by omega
            have HHI := Lib.hid hhi
            clear hhi hf hx32 hel hh hpl hpos
            go_wp2_with fail
            refine C.mono ?_
            rintro e5 w5 ⟨rfl, hx5⟩
            have HX5 := Lib.hid hx5
            have HC7 := Lib.hid (blk_cells (blk_alloc w5 (.cells (x.map u8v).toArray 30)))
            have HL7 := Lib.hid (lt_of_blk (blk_alloc w5 (.cells (x.map u8v).toArray 30)))
            have HZH := Lib.hid (show ((Tryz.prog.info? 30).bind (·.zero)).isSome = true from by kernel_rfl)
            have HP3 := Lib.hid (show 0 < (x.map u8v).length ∧ (x.map u8v).length ≤ 16777216 by rw [List.length_map, HX32.out]; decide)
            have HX8 := Lib.hid ((hx5.alloc (.cells (x.map u8v).toArray 30)).alloc (.cells (x.map u8v).toArray 30))
            have HO8 := Lib.hid (ownsRow_upd HO2.out HX8.out (fun _ _ => id))
            have HLN := Lib.hid (show (x.map u8v).length = 1 * 32 by rw [List.length_map, HX32.out])
            have HM := Lib.hid (show acc.length + 1 ≤ maxLen ∧ (acc.length + 1) * 32 ≤ 140737488355328 by have := HAL.out; have := HPL.out; unfold maxLen; omega)
            have HBW := Lib.hid (show w.heap.size ≤ ((w5.alloc (.cells (x.map u8v).toArray 30)).alloc (.cells (x.map u8v).toArray 30)).heap.size from Nat.le_trans HEX.out.size HX8.out.size)
            clear hx5 C
            go_wp2_with (first
              | (refine store_new rfl 30 _ _ rfl _ _ rfl (x.map u8v) rfl HSZ.out HZ.out HO1.out ?_)
              | (refine wpList_loadAgg rfl 30 _ rfl w5.heap.size 0 rfl (x.map u8v) Tryz.underlying30 rfl HSZ.out HC7.out ?_)
              | (refine wpList_buildOne rfl 65 30 _ rfl (x.map u8v) rfl Tryz.underlying65 HSZ.out HZH.out HP3.out.1 HP3.out.2 ?_)
              | (at_builtin; (refine wpList_appX rfl _ _ 65 rfl w.heap.size 30 i0 _ 32 32 Tryz.underlying65 hi0 hz0 hz1 hz2 rfl (by decide) _ acc.length _ rfl HO8.out (some ⟨(w5.alloc (.cells (x.map u8v).toArray 30)).heap.size, 0, none⟩) 1 1 (x.map u8v) (by rw [World.size_alloc]; rfl) HLN.out (CellsAt.new _ _ _) HO1.out HM.out.1 HM.out.2 HBW.out ?_); intro A' c' w9 hown hgrow hat; have HOWN := Lib.hid hown; have HU9 := Lib.hid ((HX2.out.thenExt HX8.out).grown hgrow (fun k hk => .inr (HO8.out.lt k hk).1)); clear hown hgrow hat))
            refine ⟨⟨j, q + c, acc ++ [x], by omega, rfl, by simp, HF.out, by rw [HCC.out]; exact HQ2.out HF.out, by rw [HCC.out]; have := HF.out; omega, by rw [List.append_assoc]; exact HACC2.out, by have := HAL.out; rw [List.length_append, List.length_singleton]; omega, HA32.out.app (H32.cons HX32.out H32.nil), ?_, HU9.out⟩, by simp [RowKit.intOf]; omega⟩
            rw [List.length_append, List.length_singleton, hcells_app, hcells_one]
            exact HOWN.out
          · rw [if_neg hhi] at hand HACC2
            simp only [Nat.zero_ne_one, if_false] at hand
            have hlo : e.length - q < c := by omega
            have HLO := Lib.hid hlo
            clear hhi hlo hel hh hpl
            go_wp2_with fail
            refine ⟨⟨j, q, acc, by omega, rfl, rfl, hq, by rw [HCC.out]; exact HQM2.out, by rw [HCC.out]; exact HLO.out, HACC2.out, by have := HAL.out; omega, HA32.out, HO2.out, HX2.out⟩, by simp [RowKit.intOf]; omega⟩
    · have hk0 : k = 0 := by omega
      subst hk0
      have hki : ¬ (0 : Int) ≤ i := by omega
      have HO' := Lib.hid HO.out
      rw [List.drop_zero] at HO'
      clear ho hx hi
      go_wp2_with fail
      go_ret
      exact ⟨_, rfl, HO'.out, HX.out.mono (fun g h1 h2 => by have h3 : w.heap.size ≤ g := h2; omega)⟩

/-- How many ones a byte has. -/
def plen : Nat → Nat → Nat
  | 0, _ => 0
  | j + 1, n => if 2 ^ j ≤ n then plen j (n - 2 ^ j) + 1 else plen j n
theorem pkD_plen (N : HB → HB → HB) : ∀ (j : Nat) (l : List HB), (pkD N j l).length = plen j l.length := by
  intro j
  induction j with
  | zero => intro l; rfl
  | succ j ih =>
    intro l
    rw [pkD, plen]
    split
    · rw [List.length_cons, ih, List.length_drop]
    · exact ih l
def t1 (a : Nat) : Nat := ((a / 2) &&& 85) + (a &&& 85)
def t2 (a : Nat) : Nat := ((a / 4) &&& 51) + (a &&& 51)
theorem tab1 : ((List.range 256).all fun a => decide (t1 a < 256) && (((a / 2 + 128) &&& 85) == ((a / 2) &&& 85))) = true := by kernel_rfl
theorem tab2 : ((List.range 256).all fun a => decide (t2 a < 256) && (List.range 4).all fun r => (((a / 4 + 64 * r) &&& 51) == ((a / 4) &&& 51))) = true := by kernel_rfl
theorem tab3 : ((List.range 256).all fun a => (List.range 5).all fun r => let b := t2 (t1 a); decide (b % 16 ≤ 4) && decide (b / 16 ≤ 4) && (((b / 16 + b + 16 * r) &&& 15) == plen 8 a)) = true := by kernel_rfl
theorem tab4 : ((List.range 256).all fun a => decide (plen 8 a ≤ 8)) = true := by kernel_rfl
theorem land_split (a b c d s : Nat) (ha : a < 2 ^ s) (hc : c < 2 ^ s) : (a + 2 ^ s * b) &&& (c + 2 ^ s * d) = (a &&& c) + 2 ^ s * (b &&& d) := by
  have h1 : a + 2 ^ s * b = 2 ^ s * b + a := Nat.add_comm _ _
  have h2 : c + 2 ^ s * d = 2 ^ s * d + c := Nat.add_comm _ _
  have h3 : (a &&& c) + 2 ^ s * (b &&& d) = 2 ^ s * (b &&& d) + (a &&& c) := Nat.add_comm _ _
  have h4 : (a &&& c) < 2 ^ s := Nat.lt_of_le_of_lt Nat.and_le_left ha
  rw [h1, h2, h3]
  apply Nat.eq_of_testBit_eq
  intro i
  rw [Nat.testBit_and, Nat.testBit_two_pow_mul_add _ ha, Nat.testBit_two_pow_mul_add _ hc, Nat.testBit_two_pow_mul_add _ h4]
  split <;> simp [Nat.testBit_and]
theorem land3 (a b c m M : Nat) (ha : a < 256) (hb : b < 256) (hc : c < 256) (hm : m < 256) (hM : M = m + 256 * (m + 256 * (m + 256 * (M / 16777216)))) : (a + 256 * (b + 256 * c)) &&& M = (a &&& m) + 256 * ((b &&& m) + 256 * (c &&& m)) := by
  rw [hM]
  have e1 := land_split a (b + 256 * c) m (m + 256 * (m + 256 * (M / 16777216))) 8 ha hm
  have e2 := land_split b c m (m + 256 * (M / 16777216)) 8 hb hm
  have e3 := land_split c 0 m (M / 16777216) 8 hc hm
  have h8 : (2 : Nat) ^ 8 = 256 := rfl
  rw [h8] at e1 e2 e3
  rw [e1, e2]
  have e4 : c = c + 256 * 0 := by omega
  conv => lhs; rw [e4]
  rw [e3]
  simp
/-- The count, of numbers below 2^24. -/
def pop3 (x : Nat) : Nat := plen 8 (x % 256) + plen 8 (x / 256 % 256) + plen 8 (x / 65536)
theorem step1 (a b c : Nat) (ha : a < 256) (hb : b < 256) (hc : c < 256) :
    (((a + 256 * (b + 256 * c)) / 2) &&& 6148914691236517205) + ((a + 256 * (b + 256 * c)) &&& 6148914691236517205) = t1 a + 256 * (t1 b + 256 * t1 c) ∧ t1 a < 256 ∧ t1 b < 256 ∧ t1 c < 256 := by
  have ka := List.all_eq_true.1 tab1 a (List.mem_range.2 ha)
  have kb := List.all_eq_true.1 tab1 b (List.mem_range.2 hb)
  have kc := List.all_eq_true.1 tab1 c (List.mem_range.2 hc)
  simp only [Bool.and_eq_true, decide_eq_true_eq, beq_iff_eq] at ka kb kc
  refine ⟨?_, ka.1, kb.1, kc.1⟩
  have e : (a + 256 * (b + 256 * c)) / 2 = (a / 2 + 128 * (b % 2)) + 256 * ((b / 2 + 128 * (c % 2)) + 256 * (c / 2)) := by omega
  rw [e, land3 _ _ _ 85 6148914691236517205 (by omega) (by omega) (by omega) (by omega) rfl, land3 a b c 85 6148914691236517205 ha hb hc (by omega) rfl]
  have fa : (a / 2 + 128 * (b % 2)) &&& 85 = (a / 2) &&& 85 := by
    rcases Nat.mod_two_eq_zero_or_one b with h | h <;> rw [h]
    · rfl
    · exact ka.2
  have fb : (b / 2 + 128 * (c % 2)) &&& 85 = (b / 2) &&& 85 := by
    rcases Nat.mod_two_eq_zero_or_one c with h | h <;> rw [h]
    · rfl
    · exact kb.2
  rw [fa, fb]
  unfold t1
  omega
theorem step2 (a b c : Nat) (ha : a < 256) (hb : b < 256) (hc : c < 256) :
    (((a + 256 * (b + 256 * c)) / 4) &&& 3689348814741910323) + ((a + 256 * (b + 256 * c)) &&& 3689348814741910323) = t2 a + 256 * (t2 b + 256 * t2 c) ∧ t2 a < 256 ∧ t2 b < 256 ∧ t2 c < 256 := by
  have ka := List.all_eq_true.1 tab2 a (List.mem_range.2 ha)
  have kb := List.all_eq_true.1 tab2 b (List.mem_range.2 hb)
  have kc := List.all_eq_true.1 tab2 c (List.mem_range.2 hc)
  simp only [Bool.and_eq_true, decide_eq_true_eq, List.all_eq_true, List.mem_range, beq_iff_eq] at ka kb kc
  refine ⟨?_, ka.1, kb.1, kc.1⟩
  have e : (a + 256 * (b + 256 * c)) / 4 = (a / 4 + 64 * (b % 4)) + 256 * ((b / 4 + 64 * (c % 4)) + 256 * (c / 4)) := by omega
  rw [e, land3 _ _ _ 51 3689348814741910323 (by omega) (by omega) (by omega) (by omega) rfl, land3 a b c 51 3689348814741910323 ha hb hc (by omega) rfl, ka.2 (b % 4) (by omega), kb.2 (c % 4) (by omega)]
  unfold t2
  omega
theorem step3 (a b c : Nat) (ha : a < 256) (hb : b < 256) (hc : c < 256) :
    (((t2 (t1 a) + 256 * (t2 (t1 b) + 256 * t2 (t1 c))) / 16 + (t2 (t1 a) + 256 * (t2 (t1 b) + 256 * t2 (t1 c)))) &&& 1085102592571150095) = plen 8 a + 256 * (plen 8 b + 256 * plen 8 c) := by
  have ka := List.all_eq_true.1 tab3 a (List.mem_range.2 ha)
  have kb := List.all_eq_true.1 tab3 b (List.mem_range.2 hb)
  have kc := List.all_eq_true.1 tab3 c (List.mem_range.2 hc)
  simp only [List.all_eq_true, List.mem_range, Bool.and_eq_true, decide_eq_true_eq, beq_iff_eq] at ka kb kc
  have a0 := ka 0 (by omega)
  have b0 := kb 0 (by omega)
  have c0 := kc 0 (by omega)
  generalize t2 (t1 a) = A at *
  generalize t2 (t1 b) = B at *
  generalize t2 (t1 c) = C at *
  have e : (A + 256 * (B + 256 * C)) / 16 + (A + 256 * (B + 256 * C)) = (A / 16 + A + 16 * (B % 16)) + 256 * ((B / 16 + B + 16 * (C % 16)) + 256 * (C / 16 + C + 16 * 0)) := by omega
  rw [e, land3 _ _ _ 15 1085102592571150095 (by omega) (by omega) (by omega) (by omega) rfl, (ka (B % 16) (by omega)).2, (kb (C % 16) (by omega)).2, c0.2]
theorem and64 (x m : Nat) (hx : x < 18446744073709551616) (hm : m < 18446744073709551616) : bits .and .u64 (x : Int) (m : Int) = ((x &&& m : Nat) : Int) := u64_and_nat x m hx hm
set_option maxRecDepth 20000 in
set_option maxHeartbeats 4000000 in
theorem ones64_any (x : Nat) (hx : x < 16777216) (w : World) : Calls Tryz.prog 97 #[.int .u64 x] w fun e w' => e = .returned (.int .i64 (pop3 x)) ∧ w = w' := by
  obtain ⟨a, b, c, ha, hb, hc, hxe⟩ : ∃ a b c, a < 256 ∧ b < 256 ∧ c < 256 ∧ x = a + 256 * (b + 256 * c) := ⟨x % 256, x / 256 % 256, x / 65536, by omega, by omega, by omega, by omega⟩
  have hpop : pop3 x = plen 8 a + plen 8 b + plen 8 c := by
    unfold pop3
    rw [show x % 256 = a by omega, show x / 256 % 256 = b by omega, show x / 65536 = c by omega]
  obtain ⟨s1, l1, l2, l3⟩ := step1 a b c ha hb hc
  obtain ⟨s2, l4, l5, l6⟩ := step2 _ _ _ l1 l2 l3
  have s3 := step3 a b c ha hb hc
  rw [← hxe] at s1
  have k1 := List.all_eq_true.1 tab4 a (List.mem_range.2 ha)
  have k2 := List.all_eq_true.1 tab4 b (List.mem_range.2 hb)
  have k3 := List.all_eq_true.1 tab4 c (List.mem_range.2 hc)
  simp only [decide_eq_true_eq] at k1 k2 k3
  generalize hy1 : t1 a + 256 * (t1 b + 256 * t1 c) = y1 at *
  generalize hy2 : t2 (t1 a) + 256 * (t2 (t1 b) + 256 * t2 (t1 c)) = y2 at *
  generalize hy3 : plen 8 a + 256 * (plen 8 b + 256 * plen 8 c) = y3 at *
  have b1 : y1 < 16777216 := by omega
  have b2 : y2 < 16777216 := by omega
  have b3 : y3 < 16777216 := by omega
  have q1 : y3 / 256 = plen 8 b + 256 * plen 8 c := by omega
  have q2 : (y3 + y3 / 256) / 65536 = plen 8 c := by rw [q1]; omega
  have hfin : (y3 + y3 / 256 + (y3 + y3 / 256) / 65536) % 128 = pop3 x := by rw [hpop, q2, q1]; omega
  have hbig : (y3 + y3 / 256 + (y3 + y3 / 256) / 65536) < 4294967296 := by omega
  have hland : (y3 + y3 / 256 + (y3 + y3 / 256) / 65536) &&& 127 = (y3 + y3 / 256 + (y3 + y3 / 256) / 65536) % 128 := Nat.and_two_pow_sub_one_eq_mod _ 7
  have e1 : bits .and .u64 ((x : Int) / 2) 6148914691236517205 = ((x / 2 &&& 6148914691236517205 : Nat) : Int) := by have := and64 (x / 2) 6148914691236517205 (by omega) (by decide); simpa using this
  have e2 : bits .and .u64 (x : Int) 6148914691236517205 = ((x &&& 6148914691236517205 : Nat) : Int) := by have := and64 x 6148914691236517205 (by omega) (by decide); simpa using this
  have e3 : bits .and .u64 ((y1 : Int) / 4) 3689348814741910323 = ((y1 / 4 &&& 3689348814741910323 : Nat) : Int) := by have := and64 (y1 / 4) 3689348814741910323 (by omega) (by decide); simpa using this
  have e4 : bits .and .u64 (y1 : Int) 3689348814741910323 = ((y1 &&& 3689348814741910323 : Nat) : Int) := by have := and64 y1 3689348814741910323 (by omega) (by decide); simpa using this
  have e5 : bits .and .u64 ((y2 : Int) / 16 + y2) 1085102592571150095 = (y3 : Int) := by have := and64 (y2 / 16 + y2) 1085102592571150095 (by omega) (by decide); rw [s3] at this; simpa using this
  generalize hu1 : x / 2 &&& 6148914691236517205 = u1 at *
  generalize hu2 : x &&& 6148914691236517205 = u2 at *
  generalize hu3 : y1 / 4 &&& 3689348814741910323 = u3 at *
  generalize hu4 : y1 &&& 3689348814741910323 = u4 at *
  have e6 : (u1 : Int) + u2 = y1 := by omega
  have e7 : (u3 : Int) + u4 = y2 := by omega
  generalize hz : y3 + y3 / 256 + (y3 + y3 / 256) / 65536 = z at *
  generalize hz1 : y3 + y3 / 256 = z1 at *
  have e8 : (y3 : Int) + (y3 : Int) / 256 = z1 := by omega
  have e9 : (z1 : Int) + (z1 : Int) / 65536 = z := by omega
  have e10 : (z : Int) + (z : Int) / 4294967296 = z := by omega
  have e11 : bits .and .i64 (z : Int) 127 = ((z % 128 : Nat) : Int) := by
    have e : bits .and .i64 (z : Int) ((127 : Nat) : Int) = ((z &&& 127 : Nat) : Int) := by
      show IntKind.i64.wrap ((BitVec.ofInt 64 (z : Int) &&& BitVec.ofInt 64 ((127 : Nat) : Int)).toNat : Int) = _
      rw [BitVec.toNat_and, BitVec.ofInt_natCast, BitVec.ofInt_natCast, BitVec.toNat_ofNat, BitVec.toNat_ofNat, Nat.mod_eq_of_lt (by omega), Nat.mod_eq_of_lt (by omega), hland]
      exact IntWalk.i64_in _ (by omega)
    rw [← hland]; exact e
  rw [hfin] at e11
  have i1 : (x : Int) < 16777216 := by omega
  have i2 : (y1 : Int) < 16777216 := by omega
  have i3 : (y2 : Int) < 16777216 := by omega
  have i4 : (y3 : Int) < 16777216 := by omega
  have i5 : (z : Int) < 4294967296 := by omega
  have i6 : (z1 : Int) < 4294967296 := by omega
  have i7 : (u1 : Int) < 16777216 := by omega
  have i8 : (u2 : Int) < 16777216 := by omega
  have i9 : (u3 : Int) < 16777216 := by omega
  have i10 : (u4 : Int) < 16777216 := by omega
  clear q1 q2 s1 s2 s3 hpop hfin hland hy1 hy2 hy3 hu1 hu2 hu3 hu4 hz hz1 k1 k2 k3 l1 l2 l3 l4 l5 l6 hxe ha hb hc b1 b2 b3 hbig
  go_enter Tryz.func97, Tryz.ntmps97
  go_wp2_with fail
  go_ret
  exact ⟨rfl, rfl⟩
end Go.Proofs.YtnkcfkjeeennmaaGreatDoor
