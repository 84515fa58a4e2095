/- tile.may, tile.Path by contracts. tile.Encode by contract. What Append puts: plain law. -/
import Derived.Test.YtnkcfkjeeennmaaGreatDoorTileP
import Derived.Test.YtnkcfkjeeennmaaGreatDoorDec
import Derived.Test.YtnkcfkjeeennmaaGreatDoorWord
import Derived.Test.YtnkcfkjeeennmaaGreatDoorCtz
import Derived.Test.YtnkcfkjeeennmaaGreatDoorIntOps
import Derived.Test.YtnkcfkjeeennmaaGreatDoorHRow
import Derived.Test.YtnkcfkjeeennmaaGreatDoorShaS
import Derived.Test.YtnkcfkjeeennmaaGreatDoorGrPl
namespace Go.Proofs.YtnkcfkjeeennmaaGreatDoor
open Go.RowKit Go.Lib


section
variable {P : Program}
/-- 'copy(dst, s)', s a string, into a part of a row of which the whole block is known. -/
theorem run_copyStrR (w : World) (dT sT ty e : TypeId) (i : TypeInfo) (hu : P.underlying dT = some (.slice e)) (hi : P.info? e = some i) (hs : i.size = 1) (g off n c : Nat) (s : List UInt8) (cs : List Value) (te : TypeId)
    (hg : w.heap[g]? = some (.cells cs.toArray te (0, 0))) (hle : s.length ≤ n) (hfit : off + s.length ≤ cs.length) :
    (Builtin.copy_ #[dT, sT] ty #[.slice (some ⟨g, off, none⟩) n c, .string (str s)]).run P w = .ok (goInt s.length) (w.setRow g (over cs off (s.map u8v)).toArray) := by
  have hst := run_storeCells_at P g off te (s.map u8v) 0 cs.toArray w hg (by simp; omega) (u8_ones s)
  simp only [Nat.add_zero] at hst
  have hmin : Nat.min s.length n = s.length := Nat.min_eq_left hle
  have hsz : (str s).size = s.length := str_size s
  simp [Builtin.copy_, run_underlying hu, Builtin.lenOf, Builtin.firstCells, sizeOf, typeInfo, hi, hs, hmin, hsz]
  rw [List.take_of_length_le (by simp)]
  simp only [List.length_map] at hst
  rw [hst]
  simp [over, Result.andThen]
theorem wpList_copyStrR {w : World} {ops : Array Oper} {rest : List Oper} {o : Oper} {a : Act} {Q : Exit → Act → World → Prop} (hgd : o.guard = none) (d x : Operand) (dT sT : TypeId)
    (ho : o.op = .call { callee := .builtin .copy, args := #[d, x], argTypes := #[dT, sT] }) (e : TypeId) (i : TypeInfo) (hu : P.underlying dT = some (.slice e)) (hi : P.info? e = some i) (hs : i.size = 1) (g off n c : Nat) (s : List UInt8) (cs : List Value) (te : TypeId)
    (hd : a.eval d = .slice (some ⟨g, off, none⟩) n c) (hx : a.eval x = .string (str s)) (hg : w.heap[g]? = some (.cells cs.toArray te (0, 0))) (hle : s.length ≤ n) (hfit : off + s.length ≤ cs.length)
    (h : wpList P ops Q rest (a.put o.dst (goInt s.length)) (w.setRow g (over cs off (s.map u8v)).toArray)) : wpList P ops Q (o :: rest) a w := by
  refine wpList_plain hgd fun K hK => ?_
  have hr := run_copyStrR (P := P) w dT sT o.type e i hu hi hs g off n c s cs te hg hle hfit
  unfold Oper.wp execOp
  simp only [ho, resolve, invoke, builtin, Sem.run_bind, Sem.run_pure, Result.andThen_ok, List.map_toArray, List.map_cons, List.map_nil, hd, hx, hr]
  exact hK _ _ h
end
theorem str3 {w : World} {g off : Nat} {l : List UInt8} {c : Nat} (hc : ∀ i (h : i < l.length), w.cell? ⟨g, off + i, none⟩ = some (u8v l[i])) :
    (convert 165 9 (.slice (some ⟨g, off, none⟩) l.length c)).run Tryz.prog w = .ok (.string (str l)) w := by
  have e := run_convert_bytes_arg (P := Tryz.prog) w 165 5 Tryz.underlying165 Tryz.underlying5 g off l.length c (l.map fun c => (c.toNat : Int)) (by simp) (fun i hi => by
    rw [hc i hi]
    simp [hi]) 9 Tryz.underlying9
  rw [e, strOfNums_str]
theorem exec_conv {P : Program} {o : Oper} {a : Act} (w : World) {t u : TypeId} {x : Operand} (ho : o.op = .convert t u x) (v r : Value) (hx : a.eval x = v) (hr : (convert t u v).run P w = .ok r w) : (execOp a.eval o).run P w = .ok (.value r) w := by
  simp only [execOp, ho, hx, Sem.run_bind, hr, Result.andThen_ok]
  rfl
theorem run_sl3 {P : Program} {o : Oper} {a : Act} (w : World) {t e : TypeId} {x h3 m3 : Operand} (ho : o.op = .slice t x none (some h3) (some m3)) (g off n c : Nat) (hx : a.eval x = .slice (some ⟨g, off, none⟩) n c) (hh : a.eval h3 = .int .i64 3) (hm : a.eval m3 = .int .i64 3) (hc : 3 ≤ c) (hu : P.underlying t = some (.slice e)) (hs : (P.info? e).map (·.size) = some 1) :
    (execOp a.eval o).run P w = .ok (.value (.slice (some ⟨g, off, none⟩) 3 3)) w := by
  cases hq : P.info? e with
  | none => simp [hq] at hs
  | some i =>
    have his : i.size = 1 := by simpa [hq] using hs
    have hc2 : (3 : Int) ≤ c := by omega
    simp [execOp, ho, hx, hh, hm, Instr.sliceAt, Instr.slice, Instr.sliceBounds, Instr.sliceBound, run_underlying hu, asIntOf, sizeOf, typeInfo, hq, his, hc2, hc, Addr.add_lit]
theorem dec_pos (u : Nat) : 1 ≤ (Lib.decDigits u).length := by
  rw [Lib.decDigits_length]
  exact nDigits_pos u
theorem u8_size : (Tryz.prog.info? 5).map (·.size) = some 1 := by kernel_rfl
def slLen : Value → Nat
  | .slice _ n _ => n
  | _ => 0
def FlRel (g N : Nat) (w : World) (iv : Value) (wr : World) : Prop :=
  ∃ (j : Nat) (R : List Value), iv = .int .i64 j ∧ j ≤ N ∧ R.length = N - j ∧ wr.heap[g]? = some (.cells ((List.replicate j (48 : UInt8)).map u8v ++ R).toArray 5 (0, 0)) ∧ Upd (one g) w wr
def GrRel (g : Nat) (P : List UInt8) (tot : List UInt8) (w5 : World) (sv tv : Value) (wr : World) : Prop :=
  ∃ (off : Nat) (pre : List UInt8), off ≤ P.length ∧ sv = .slice (some ⟨g, off, none⟩) (P.length - off) (P.length - off) ∧ tv = .string (str pre) ∧ pre ++ grp (P.drop off) = tot ∧ pre.length ≤ 60 + 2 * off ∧ wr = w5
abbrev tileV (k i wd : Nat) : Value := .agg #[.int .u8 k, .int .u64 i, .int .i64 wd]
set_option maxRecDepth 20000 in
set_option maxHeartbeats 4000000 in
theorem tmay_any (w : World) (k i wd : Nat) (hk : k ≤ 2) (hi : i ≤ 65536) (h1 : 1 ≤ wd) (h2 : wd ≤ 256) :
    Calls Tryz.prog 102 #[tileV k i wd] w fun e w' => e = .returned (.bool true) ∧ Ext w w' := by
  have a1 : ¬ (7 : Int) < k := by omega
  have a2 : ¬ (wd : Int) < 1 := by omega
  have a3 : ¬ (256 : Int) < wd := by omega
  have a4 : ¬ (36028797018963968 : Int) ≤ i := by omega
  have a5 : IntKind.u64.wrap (wd : Int) = wd := by rw [IntKind.wrap_u64]; omega
  have hk3 : k = 0 ∨ k = 1 ∨ k = 2 := by omega
  rcases hk3 with rfl | rfl | rfl
  all_goals
    go_enter Tryz.func102, Tryz.ntmps102
    go_wp2_with fail
    go_ret
    exact ⟨congrArg (fun b => Ending.returned (.bool b)) (decide_eq_true (by omega)), (Upd.refl none' w).alloc _⟩
set_option maxRecDepth 20000 in
set_option maxHeartbeats 4000000 in
theorem path_any (w : World) (k i wd : Nat) (hk : k ≤ 2) (hi : i ≤ 65536) (h1 : 1 ≤ wd) (h2 : wd ≤ 256) (T : Tab10 w) :
    Calls Tryz.prog 49 #[tileV k i wd] w fun e w' => e = .returned (.tuple #[.string (str (pathB k i wd)), .nilIface]) ∧ Ext w w' := by
  obtain ⟨i0, hi0, hz0, hz1, hz2⟩ := info_parts info_u8
  have X0 := (Upd.refl none' w).alloc (.cells #[.int .u8 k, .int .u64 i, .int .i64 wd] 115)
  have HQ := Lib.hid (blk_alloc w (.cells #[.int .u8 k, .int .u64 i, .int .i64 wd] 115))
  have HX := Lib.hid X0
  have HT := Lib.hid (T.ext X0)
  have HT0 := Lib.hid T
  have C := tmay_any (w.alloc (.cells #[.int .u8 k, .int .u64 i, .int .i64 wd] 115)) k i wd hk hi h1 h2
  have HKI := Lib.hid (⟨hk, hi, h1, h2⟩ : k ≤ 2 ∧ i ≤ 65536 ∧ 1 ≤ wd ∧ wd ≤ 256)
  clear X0 T hk hi h1 h2
  go_enter Tryz.func49, Tryz.ntmps49
  go_wp2_with fail
  refine C.mono ?_
  rintro e w1 ⟨rfl, hx1⟩
  have HX1 := Lib.hid (HX.out.trans hx1)
  have HQ1 := Lib.hid (Ext.blk hx1 HQ.out)
  have HT1 := Lib.hid (HT.out.ext hx1)
  have d1 : w1.cell? ⟨w.heap.size, 1, none⟩ = some (.int .u64 i) := cell_of_blk HQ1.out 1
  have CD := decimal_any i (by have := HKI.out.2.1; omega) w1 HT1.out
  clear hx1 C
  go_wp2_with fail
  refine CD.mono ?_
  rintro e w2 ⟨rfl, hx2⟩
  have HX2 := Lib.hid (HX1.out.trans hx2)
  have HQ2 := Lib.hid (Ext.blk hx2 HQ1.out)
  have HT2 := Lib.hid (HT1.out.ext hx2)
  have hdl := dec_len i (by have := HKI.out.2.1; omega)
  have HD1 := Lib.hid (dec_pos i)
  have HPB := Lib.hid (show pathB k i wd = tileB ++ Lib.decDigits k ++ [47] ++ grp (pad3 (Lib.decDigits i)) ++ (if wd < 256 then [46, 112, 47] ++ Lib.decDigits wd else []) from rfl)
  generalize Lib.decDigits i = D at *
  obtain ⟨N, hN⟩ : ∃ N : Nat, N = (D.length + 2) / 3 * 3 := ⟨_, rfl⟩
  have hNi : ((D.length : Int) + 2) / 3 * 3 = (N : Nat) := by omega
  have hN24 : N ≤ 24 := by omega
  have hDN : D.length ≤ N := by omega
  have HNE := Lib.hid hN
  have HNM := Lib.hid (show i0.bytes * N ≤ 281474976710656 ∧ N ≤ maxLen by rw [hz2]; unfold maxLen; omega)
  clear hN hx2 CD d1
  go_wp2_with (at_make; refine wpList_make_full _ rfl _ _ 165 rfl w.heap.size 5 i0 _ 1 Tryz.underlying165 hi0 hz0 hz1 .i64 .i64 _ _ N rfl rfl rfl rfl HNM.out.1 HNM.out.2 HX2.out.size ?_)
  intro w3 hown hgrow
  have hblk : ∃ R : List Value, R.length = N ∧ w3.heap[w2.heap.size]? = some (.cells R.toArray 5 (0, 0)) := by
    rcases hown.2 with ⟨hv, _⟩ | ⟨g, cap, cur, hv, hb, hg, hnc, hcm, hcs, ht⟩
    · cases hv
    · simp only [Value.slice.injEq, Option.some.injEq, Addr.mk.injEq, and_true, true_and] at hv
      obtain ⟨rfl, _, rfl⟩ := hv
      obtain ⟨cl⟩ := cur
      exact ⟨cl, by simpa using hcs, hg⟩
  obtain ⟨R, hR, hblk⟩ := hblk
  have HBK := Lib.hid hblk
  have HR := Lib.hid hR
  have HG2 := Lib.hid HX2.out.size
  have HX23 := Lib.hid ((Upd.refl none' w2).grown hgrow (fun k hk => by cases hk))
  have HX3 := Lib.hid (HX2.out.trans HX23.out)
  have HQ3 := Lib.hid (Ext.blk HX23.out HQ2.out)
  have HQG := Lib.hid (show w.heap.size < w2.heap.size from lt_of_blk HQ2.out)
  have HT3 := Lib.hid (HT2.out.ext HX23.out)
  clear hown hgrow hblk hR
  generalize w2.heap.size = g at *
  go_wp2_with fail
  go_loopw [23] (fun iv wr => FlRel g N w3 iv wr) (fun iv _ => N - (RowKit.intOf iv).toNat)
  case atStart => exact ⟨0, R, rfl, Nat.zero_le _, by rw [HR.out]; rfl, HBK.out, Upd.refl _ _⟩
  case round =>
    obtain ⟨j, R2, rfl, hj, hr2, hb, u⟩ := hrel
    have HU := Lib.hid u
    have HB := Lib.hid hb
    have HR2 := Lib.hid hr2
    clear u hb hr2
    by_cases hlt : j < N
    · have hlti : (j : Int) < N := by omega
      obtain ⟨v0, R3, rfl⟩ : ∃ v0 R3, R2 = v0 :: R3 := by
        cases R2 with
        | nil => have := HR2.out; simp at this; omega
        | cons a b => exact ⟨a, b, rfl⟩
      have hl48 : ((List.replicate j (48 : UInt8)).map u8v).length = j := by simp
      have f0 := free_of_blk HB.out j
      have c0 : wr.cell? ⟨g, j, none⟩ = some v0 := by
        rw [cell_of_blk HB.out, List.getElem?_toArray, List.getElem?_append_right (by omega), hl48, Nat.sub_self]
        rfl
      have HB3 : Hid ((wr.setCell ⟨g, j, none⟩ (.int .u8 48)).heap[g]? = some (.cells ((List.replicate (j + 1) (48 : UInt8)).map u8v ++ R3).toArray 5 (0, 0))) := Lib.hid (by
        rw [blk_set HB.out j (.int .u8 48)]
        have e : ((List.replicate j (48 : UInt8)).map u8v ++ v0 :: R3).set j (.int .u8 48) = (List.replicate (j + 1) (48 : UInt8)).map u8v ++ R3 := by
          rw [List.set_append_right _ _ (by omega), hl48, Nat.sub_self, List.replicate_succ', List.map_append]
          simp
        rw [← e]
        simp)
      have HU3 := Lib.hid (HU.out.setCell (p := ⟨g, j, none⟩) (.inr rfl) (.int .u8 48))
      clear hl48 hj hlt
      go_wp2_with fail
      have hlt2 : j < N := by omega
      have hr := HR2.out
      simp only [List.length_cons] at hr
      exact ⟨⟨j + 1, R3, rfl, by omega, by omega, HB3.out, HU3.out⟩, by simp [RowKit.intOf]; omega⟩
    · have hjN : j = N := by omega
      have hlti : ¬ (j : Int) < N := by omega
      subst hjN
      have hR0 : R2 = [] := List.eq_nil_of_length_eq_zero (by have := HR2.out; omega)
      subst hR0
      clear hlt hj
      have hdl1 : 1 ≤ D.length := HD1.out
      have hsub : (j : Int) - D.length = ((j - D.length : Nat) : Int) := by omega
      have HSU := Lib.hid (show IntKind.i64.wrap ((j : Int) - D.length) = ((j - D.length : Nat) : Int) by rw [hsub]; exact IntWalk.i64_in _ (by omega))
      have HLO := Lib.hid (show j - D.length ≤ j by omega)
      have HCL := Lib.hid (show D.length ≤ j - (j - D.length) by omega)
      have HFT := Lib.hid (show j - D.length + D.length ≤ ((List.replicate j (48 : UInt8)).map u8v ++ []).length by simp; omega)
      have HLE := Lib.hid (show (if j = j - D.length then some ⟨g, 0, none⟩ else (some (⟨g, 0, none⟩ : Addr)).map (·.add ((j - D.length) * 1))) = some ⟨g, j - D.length, none⟩ by rw [if_neg (by omega)]; simp only [Option.map_some, Addr.add_lit, Nat.zero_add, Nat.mul_one])
      have HOV : Hid (over ((List.replicate j (48 : UInt8)).map u8v ++ []) (j - D.length) (D.map u8v) = (pad3 D).map u8v) := Lib.hid (by
        have h1 := HNE.out
        unfold over pad3
        have e1 : j - D.length = (3 - D.length % 3) % 3 := by omega
        rw [List.append_nil, List.length_map, show j - D.length + D.length = j by omega, List.drop_of_length_le (by simp), List.append_nil, List.map_append, e1, ← List.map_take, List.take_replicate, Nat.min_eq_left (by omega)])
      have HQR := Lib.hid (HU.out.blk HQ3.out (fun e => by have e2 : w.heap.size = g := e; have := HQG.out; omega))
      have HQ4 := Lib.hid (blk_setRow_ne HQR.out (show w.heap.size ≠ g by have := HQG.out; omega) ((pad3 D).map u8v).toArray)
      have HB4 := Lib.hid (blk_setRow HB.out ((pad3 D).map u8v).toArray)
      have HU4 := Lib.hid (HU.out.setRow (g := g) (.inr rfl) ((pad3 D).map u8v).toArray)
      have HX4 := Lib.hid (HX3.out.then HU4.out (fun b hb e => by have e2 : b = g := e; have := HG2.out; omega))
      have HT4 := Lib.hid (HT0.out.ext HX4.out)
      have e0 : (wr.setRow g ((pad3 D).map u8v).toArray).cell? ⟨w.heap.size, 0, none⟩ = some (.int .u8 k) := cell_of_blk HQ4.out 0
      have CD := decimal_any k (by have := HKI.out.1; omega) (wr.setRow g ((pad3 D).map u8v).toArray) HT4.out
      have hk64 : IntKind.u64.wrap (k : Int) = k := by rw [IntKind.wrap_u64]; have := HKI.out.1; omega
      clear hsub
      go_wp2_with (first
        | (refine wpList_run rfl (run_bop _ rfl (.int .i64 j) (.int .i64 D.length) (.int .i64 ((j - D.length : Nat) : Int)) rfl rfl (run_subI .i64 j D.length _ HSU.out _)) ?_)
        | (refine wpList_run rfl (run_val (run_slLo _ rfl (some ⟨g, 0, none⟩) j j (j - D.length) 1 5 rfl rfl HLO.out Tryz.underlying165 u8_size) (by rw [HLE.out])) ?_)
        | (refine wpList_copyStrR rfl _ _ 165 9 rfl 5 i0 Tryz.underlying165 hi0 hz1 g (j - D.length) (j - (j - D.length)) (j - (j - D.length)) D _ 5 rfl rfl HB.out HCL.out HFT.out ?_; rw [HOV.out]))
      generalize wr.setRow g ((pad3 D).map u8v).toArray = W4 at *
      refine CD.mono ?_
      rintro e w5 ⟨rfl, hx5⟩
      have HX5 := Lib.hid (HX4.out.trans hx5)
      have HQ5 := Lib.hid (Ext.blk hx5 HQ4.out)
      have HB5 := Lib.hid (Ext.blk hx5 HB4.out)
      have HT5 := Lib.hid (HT4.out.ext hx5)
      have hkl := dec_len k (by have := HKI.out.1; omega)
      clear hx5 CD e0
      have HPL := Lib.hid (pad3_len D)
      have HPE := Lib.hid (show (pad3 D).length = j by rw [pad3_len]; exact HNE.out.symm)
      generalize hK : Lib.decDigits k = K at *
      have hl1 : ¬ 9223372036854775807 < 5 + K.length := by omega
      have hl2 : ¬ 9223372036854775807 < 5 + K.length + 1 := by omega
      have HKL := Lib.hid hkl
      clear hK
      generalize hPD : pad3 D = PD at *
      have HST := Lib.hid (show (⟨#[116, 105, 108, 101, 47]⟩ ++ str K ++ ⟨#[47]⟩ : ByteArray) = str (tileB ++ K ++ [47]) by
        apply ByteArray.ext
        simp [tileB])
      clear hPD
      go_wp2_with fail
      rw [HST.out]
      go_loopw [5, 7] (fun sv tv wr => GrRel g PD (tileB ++ K ++ [47] ++ grp PD) w5 sv tv wr) (fun sv _ _ => slLen sv)
      case atStart => exact ⟨0, tileB ++ K ++ [47], Nat.zero_le _, by rw [HPE.out]; rfl, rfl, rfl, by have := HKL.out; simp [tileB]; omega, rfl⟩
      case round =>
        obtain ⟨off, pre, hoff, rfl, rfl, hpre, hpl, hw⟩ := hrel
        subst hw
        have HPRE := Lib.hid hpre
        have hpj := HPE.out
        obtain ⟨n, hn⟩ : ∃ n, n = PD.length - off := ⟨_, rfl⟩
        have hrl : (PD.drop off).length = n := by rw [List.length_drop, hn]
        have HCC := Lib.hid (show ∀ i (h : i < (PD.drop off).length), wr.cell? ⟨g, off + i, none⟩ = some (u8v (PD.drop off)[i]) from fun i h => by
          rw [cell_of_blk HB5.out]
          have : off + i < PD.length := by rw [List.length_drop] at h; omega
          simp [this])
        rw [← hn]
        have HN := Lib.hid hn
        have HOF := Lib.hid hoff
        have HPL2 := Lib.hid hpl
        have HRL := Lib.hid hrl
        by_cases h3 : 3 < n
        · have h3i : (3 : Int) < n := by omega
          obtain ⟨T3, hT3⟩ : ∃ T3, T3 = (PD.drop off).take 3 := ⟨_, rfl⟩
          have hT3l : T3.length = 3 := by rw [hT3, List.length_take, hrl]; omega
          have HCV : Hid ((convert 165 9 (.slice (some ⟨g, off, none⟩) 3 3)).run Tryz.prog wr = .ok (.string (str T3)) wr) := Lib.hid (by
            have h := str3 (w := wr) (g := g) (off := off) (l := T3) (c := 3) (fun i h => by
              have h2 : i < (PD.drop off).length := by rw [hrl]; omega
              rw [HCC.out i h2]
              simp [hT3])
            rwa [hT3l] at h)
          have hx1 : ¬ 9223372036854775807 < 1 + T3.length := by omega
          have hx2 : ¬ 9223372036854775807 < 1 + T3.length + 1 := by omega
          have hx3 : ¬ 9223372036854775807 < pre.length + (1 + T3.length + 1) := by omega
          have HNX := Lib.hid (show (pre ++ [120] ++ T3 ++ [47]) ++ grp (PD.drop (off + 3)) = tileB ++ K ++ [47] ++ grp PD by
            rw [← HPRE.out, grp_step (PD.drop off) (by rw [hrl]; omega), ← hT3, List.drop_drop]
            simp)
          have HLE := Lib.hid (show (if n = 3 then some ⟨g, off, none⟩ else (some (⟨g, off, none⟩ : Addr)).map (·.add (3 * 1))) = some ⟨g, off + 3, none⟩ by rw [if_neg (by omega)]; simp only [Option.map_some, Addr.add_lit])
          have HN3 := Lib.hid (show 3 ≤ n by omega)
          have HSS := Lib.hid (show (str pre ++ (⟨#[120]⟩ ++ str T3 ++ ⟨#[47]⟩) : ByteArray) = str (pre ++ [120] ++ T3 ++ [47]) by
            apply ByteArray.ext
            simp)
          have HT3 := Lib.hid hT3l
          clear hn hoff hpl hrl h3 hT3 hT3l hpj hpre
          go_wp2_with (first
            | (refine wpList_run rfl (run_sl3 _ rfl g off n n rfl rfl rfl HN3.out Tryz.underlying165 u8_size) ?_)
            | (refine wpList_run rfl (exec_conv _ rfl (.slice (some ⟨g, off, none⟩) 3 3) _ rfl HCV.out) ?_)
            | (refine wpList_run rfl (run_val (run_slLo _ rfl (some ⟨g, off, none⟩) n n 3 1 5 rfl rfl HN3.out Tryz.underlying165 u8_size) (by rw [HLE.out])) ?_))
          refine ⟨⟨_, _, _, _, _, _, _, _, _, _, _, _, _, _, ?_, rfl⟩, ?_⟩
          · rw [HSS.out]
            exact ⟨off + 3, pre ++ [120] ++ T3 ++ [47], by have := HN.out; have := HOF.out; omega, by rw [show PD.length - (off + 3) = n - 3 by have := HN.out; omega], rfl, HNX.out, by have := HPL2.out; have := HT3.out; simp; omega, rfl⟩
          · simp [slLen]
            have := HN3.out
            omega
        · have h3i : ¬ (3 : Int) < n := by omega
          have HCV : Hid ((convert 165 9 (.slice (some ⟨g, off, none⟩) n n)).run Tryz.prog wr = .ok (.string (str (PD.drop off))) wr) := Lib.hid (by
            have h := str3 (w := wr) (g := g) (off := off) (l := PD.drop off) (c := n) HCC.out
            rwa [hrl] at h)
          have HNX := Lib.hid (show pre ++ PD.drop off = tileB ++ K ++ [47] ++ grp PD by
            rw [← HPRE.out, grp_small (PD.drop off) (by rw [hrl]; omega)])
          have hx3 : ¬ 9223372036854775807 < pre.length + (PD.drop off).length := by omega
          generalize PD.drop off = rest at *
          have HSS := Lib.hid (show (str pre ++ str rest : ByteArray) = str (tileB ++ K ++ [47] ++ grp PD) by
            rw [← HNX.out]
            apply ByteArray.ext
            simp)
          have HTL := Lib.hid (show (tileB ++ K ++ [47] ++ grp PD).length ≤ 200 by
            have h1 := congrArg List.length HNX.out
            rw [List.length_append] at h1
            rw [← h1]
            omega)
          clear hn hoff hpl h3 hpre hpj hrl
          have q2 : wr.cell? ⟨w.heap.size, 2, none⟩ = some (.int .i64 wd) := cell_of_blk HQ5.out 2
          have HWD := Lib.hid (fun (_ : Unit) => HKI.out.2.2.2)
          by_cases hw : wd < 256
          · have hwi : (wd : Int) < 256 := by omega
            have hw64 : IntKind.u64.wrap (wd : Int) = wd := by rw [IntKind.wrap_u64]; omega
            have CW := decimal_any wd (by omega) wr HT5.out
            have hwl := dec_len wd (by omega)
            have HF := Lib.hid (show tileB ++ K ++ [47] ++ grp PD ++ ([46, 112, 47] ++ Lib.decDigits wd) = pathB k i wd by rw [HPB.out, if_pos hw])
            generalize Lib.decDigits wd = W at *
            have hpl6 : pre.length + rest.length ≤ 200 := by
              have h1 := congrArg List.length HNX.out
              rw [List.length_append] at h1
              rw [h1]
              exact HTL.out
            have hx4 : ¬ 9223372036854775807 < 3 + W.length := by omega
            have hx5 : ¬ 9223372036854775807 < pre.length + rest.length + (3 + W.length) := by omega
            have HSS2 := Lib.hid (show (str pre ++ str rest ++ (⟨#[46, 112, 47]⟩ ++ str W) : ByteArray) = str (pathB k i wd) by
              rw [← HF.out, ← HNX.out]
              apply ByteArray.ext
              simp)
            clear hw
            go_wp2_with (refine wpList_run rfl (exec_conv _ rfl (.slice (some ⟨g, off, none⟩) n n) _ rfl HCV.out) ?_)
            refine CW.mono ?_
            rintro e w6 ⟨rfl, hx6⟩
            have HX6 := Lib.hid (HX5.out.trans hx6)
            clear hx6 CW
            go_wp2_with fail
            go_ret2
            exact ⟨by rw [← HSS2.out]; rfl, HX6.out⟩
          · have hwi : ¬ (wd : Int) < 256 := by omega
            have HF := Lib.hid (show tileB ++ K ++ [47] ++ grp PD = pathB k i wd by rw [HPB.out, if_neg hw, List.append_nil])
            clear hw
            go_wp2_with (refine wpList_run rfl (exec_conv _ rfl (.slice (some ⟨g, off, none⟩) n n) _ rfl HCV.out) ?_)
            go_ret2
            exact ⟨by rw [← HF.out, ← HSS.out]; rfl, HX5.out⟩

theorem SB.ext {B b : Nat} {bs : List UInt8} {w w' : World} (h : SB B b bs w) (u : Ext w w') : SB B b bs w' := by
  rcases h with ⟨h1, v, h2, h3, h4⟩ | ⟨h1, v, h2, h3, h4⟩
  · exact .inl ⟨h1, v, Ext.blk u h2, ownsRow_upd h3 u (fun _ _ => id), h4⟩
  · exact .inr ⟨h1, v, Ext.blk u h2, ownsRow_upd h3 u (fun _ _ => id), h4⟩
def EnRel (B b : Nat) (l : List HB) (w0 : World) (iv : Value) (wr : World) : Prop :=
  ∃ j : Nat, j ≤ l.length ∧ iv = .int .i64 j ∧ SB B b ((l.take j).flatten) wr ∧ Below B w0 wr
theorem flat_len {l : List HB} (h : H32 l) : l.flatten.length = l.length * 32 := by
  induction l with
  | nil => rfl
  | cons a l ih =>
    rw [List.flatten_cons, List.length_append, ih (fun x hx => h x (List.mem_cons_of_mem _ hx)), h a (List.mem_cons_self ..), List.length_cons]
    omega
set_option maxRecDepth 20000 in
set_option maxHeartbeats 8000000 in
theorem encode_any (w : World) (g o : Nat) (l : List HB) (cap : Nat) (h32 : H32 l) (hA : CellsAt w (some ⟨g, o, none⟩) (hcells l)) (h1 : 1 ≤ l.length) (h2 : l.length ≤ 256) :
    Calls Tryz.prog 50 #[.slice (some ⟨g, o, none⟩) l.length cap] w fun e w' => e = .returned (.tuple #[.string (str l.flatten), .nilIface]) ∧ Ext w w' := by
  have a1 : ¬ (l.length : Int) < 1 := by omega
  have a2 : ¬ (256 : Int) < l.length := by omega
  have HB := Lib.hid (sb_fresh w)
  have HW := Lib.hid (((Upd.refl none' w).alloc (.cells #[.pointer none, .slice none 0 0] 183)))
  have HWB := Lib.hid (blk_alloc w (.cells #[.pointer none, .slice none 0 0] 183))
  have HA := Lib.hid hA
  have H32' := Lib.hid h32
  have HL := Lib.hid h2
  clear hA h32 h1 h2
  go_enter Tryz.func50, Tryz.ntmps50
  go_wp2_with fail
  have HAW := Lib.hid (HA.out.ext HW.out)
  have HGL := Lib.hid (fun (hl : 0 < l.length) => (show g < w.heap.size by
    have h3 := H32'.out.getD 0 hl
    have h := hash_at HA.out H32'.out 0 hl
    generalize l.getD 0 [] = y at h h3
    have hy : (y.map u8v)[0]? = some (u8v (y[0]'(by omega))) := by simp [h3]
    exact lt_of_cell (h 0 _ hy)))
  generalize World.alloc w (.cells #[.pointer none, .slice none 0 0] 183) = W at *
  go_loopw [18] (fun iv wr => EnRel w.heap.size w.heap.size l W iv wr) (fun iv _ => l.length - (RowKit.intOf iv).toNat)
  case atStart => exact ⟨0, Nat.zero_le _, rfl, HB.out, Below.refl _ _⟩
  case round =>
    obtain ⟨j, hj, rfl, hsb, hbl⟩ := hrel
    have HSB := Lib.hid hsb
    have HBL := Lib.hid hbl
    clear hsb hbl
    by_cases hlt : j < l.length
    · have hji : (j : Int) < l.length := by omega
      have hg := HGL.out (by omega)
      have HJ := Lib.hid hlt
      have HC := Lib.hid (show ∀ i v, ((l.getD j []).map u8v)[i]? = some v → wr.cell? ⟨g, o + j * 32 + i, none⟩ = some v from fun i v hv => by
        have h := hash_at HAW.out H32'.out j hlt i v hv
        rw [World.cell?_of_block (HBL.out.block _ hg)]
        exact h)
      have HX32 := Lib.hid (H32'.out.getD j hlt)
      have HTK := Lib.hid (show (l.take (j + 1)).flatten = (l.take j).flatten ++ l.getD j [] by
        rw [List.take_succ_eq_append_getElem hlt, List.flatten_append]
        simp [List.getD_eq_getElem?_getD, List.getElem?_eq_getElem hlt])
      have HOL := Lib.hid (show ((l.take j).flatten).length ≤ 8192 by
        rw [flat_len (H32'.out.take j), List.length_take]
        have := HL.out
        omega)
      generalize l.getD j [] = x at *
      have HSZ := Lib.hid (hash_size32 x HX32.out)
      have HO1 := Lib.hid (u8_ones x)
      have HZL := Lib.hid (show zero32.size = (x.map u8v).length by rw [List.length_map, HX32.out]; rfl)
      clear hlt hg
      go_wp2_with (first
        | (refine wpList_loadAgg rfl 30 _ rfl g (o + j * 32) rfl (x.map u8v) Tryz.underlying30 rfl HSZ.out HC.out ?_)
        | (refine store_new rfl 30 _ _ rfl _ _ rfl (x.map u8v) rfl HSZ.out HZL.out HO1.out ?_))
      have C := wrows_any w.heap.size w.heap.size (((l.take j).flatten).map u8v) (some ⟨wr.heap.size, 0, none⟩) 32 32 (x.map u8v) (wr.alloc (.cells (x.map u8v).toArray 30)) (SB.ext HSB.out ((Upd.refl none' wr).alloc _)) (CellsAt.new wr _ _) (fun ad e => by
        obtain rfl := Option.some.inj e
        have h1 := HBL.out.size
        have h2 := lt_of_blk HWB.out
        show wr.heap.size ≠ w.heap.size
        omega) (by rw [List.length_map, HX32.out]) HO1.out (by rw [List.length_map]; have := HOL.out; omega) (by have h1 := HBL.out.size; have h2 := lt_of_blk HWB.out; simp; omega)
      refine C.mono ?_
      rintro e w5 ⟨rfl, hb5, hbl5⟩
      have HF : Hid (SB w.heap.size w.heap.size ((l.take (j + 1)).flatten) w5) := Lib.hid (by
        rw [HTK.out]
        exact .inr (by rw [List.map_append]; exact hb5))
      have HBF := Lib.hid ((HBL.out.trans (Ext.below ((Upd.refl none' wr).alloc (.cells (x.map u8v).toArray 30)) (by have h1 := HBL.out.size; have h2 := lt_of_blk HWB.out; omega))).trans hbl5)
      clear hb5 hbl5 C
      go_wp2_with fail
      exact ⟨⟨j + 1, by have := HJ.out; omega, rfl, HF.out, HBF.out⟩, by have := HJ.out; simp [RowKit.intOf]; omega⟩
    · have hjl : j = l.length := by omega
      have hji : ¬ (j : Int) < l.length := by omega
      have HSB2 : Hid (SB w.heap.size w.heap.size l.flatten wr) := Lib.hid (by
        have := HSB.out
        rwa [hjl, List.take_of_length_le (Nat.le_refl _)] at this)
      clear hj hlt hjl
      have C := Tryz.Builder_String_any w.heap.size w.heap.size l.flatten wr HSB2.out (by have h1 := HBL.out.size; have h2 := lt_of_blk HWB.out; omega)
      go_wp2_with fail
      refine C.mono ?_
      rintro e w9 ⟨rfl, hbl9⟩
      have HF := Lib.hid (Ext.of_below ((Ext.below HW.out (Nat.le_refl _)).trans (HBL.out.trans hbl9)))
      clear hbl9 C
      go_wp2_with fail
      go_ret2
      exact ⟨rfl, HF.out⟩

/-- Whole tiles as they may be. -/
def LOk (G : GrP) : Prop := ∀ k, ∀ t ∈ G.ls.getD k [], t.1 = k ∧ t.2.1 ≤ 65536 ∧ t.2.2.1 = 256 ∧ t.2.2.2.length = 256 ∧ H32 t.2.2.2
theorem pushP_lok {M k i : Nat} {x : HB} {G : GrP} (h : LOk G) (ho : okP M G) (hx : x.length = 32) (hi : i ≤ 16777216) : LOk (pushP k x i G) := by
  have hl : k < (padL G.ls (k + 1) []).length := by rw [padL_len]; omega
  unfold pushP
  simp only [padL_getD]
  split
  · rename_i h256
    intro j t ht
    have ht : t ∈ ((padL G.ls (k + 1) []).set k (G.ls.getD k [] ++ [(k, i / 256, 256, G.es.getD k [] ++ [x])])).getD j [] := ht
    rw [getD_put _ _ _ _ _ hl, padL_getD] at ht
    by_cases hj : j = k
    · rw [if_pos hj] at ht
      subst hj
      rcases List.mem_append.1 ht with h1 | h1
      · exact h j t h1
      · rw [List.mem_singleton.1 h1]
        exact ⟨rfl, by show i / 256 ≤ 65536; omega, rfl, by show (G.es.getD j [] ++ [x]).length = 256; rw [List.length_append, List.length_singleton]; exact h256, H32.app (ho.h j).2 (H32.cons hx H32.nil)⟩
    · rw [if_neg hj] at ht
      exact h j t ht
  · intro j t ht
    have ht : t ∈ (padL G.ls (k + 1) []).getD j [] := ht
    rw [padL_getD] at ht
    exact h j t ht
theorem pushes_lok {M n : Nat} {l : List HB} {y : HB} {G : GrP} (h : LOk G) (ho : okP M G) (hl : H32 l) (hy : y.length = 32) (hn : n ≤ 16777216) : ∀ m, (∀ k, k < m → 8 * k ≤ l.length) → m ≤ 64 → LOk (pushes n l y G m)
  | 0, _, _ => h
  | m + 1, hm, hm2 => by
    rw [pushes_succ]
    exact pushP_lok (pushes_lok h ho hl hy hn m (fun k hk => hm k (by omega)) (by omega)) (pushes_ok ho hl hy m (fun k hk => hm k (by omega)) (by omega)) (cr_len32 hl hy _ (hm m (by omega))) (Nat.le_trans (Nat.div_le_self _ _) hn)
theorem addP_lok {n M : Nat} {G : GrP} (h : GInv n M G) (hL : LOk G) (hn : n < 1048576) {y : HB} (hy : y.length = 32) : LOk (addP n y G) := by
  have hs := step_main nodeH G.es n y h.f
  have h20 := ones_20 hn
  exact pushes_lok hL h.k (peaksE_32 _ h.h) hy (by omega) _ (fun k hk => by have := hs.1; omega) (by omega)
theorem addsP_lok : ∀ (ys : List HB) {n M : Nat} {G : GrP}, GInv n M G → LOk G → n + ys.length ≤ 1048576 → H32 ys → LOk (addsP n ys G)
  | [], _, _, _, _, h, _, _ => h
  | y :: ys, n, M, G, h, hL, hn, hy => addsP_lok ys (h.add (by simp at hn; omega) (hy y (by simp))) (addP_lok h hL (by simp at hn; omega) (hy y (by simp))) (by simp at hn; omega) (fun z hz => hy z (by simp [hz]))
/-- A tile as it may be. -/
structure TOk (t : LaidP) : Prop where
  k : t.1 ≤ 2
  i : t.2.1 ≤ 65536
  w1 : 1 ≤ t.2.2.1
  w2 : t.2.2.1 ≤ 256
  l : t.2.2.2.length = t.2.2.1
  h : H32 t.2.2.2
theorem tiles_ok {n M : Nat} {G : GrP} (h : GInv n M G) (hL : LOk G) (hn : n ≤ 16777216) : ∀ t ∈ tilesP n G G.ts.length, TOk t := fun t ht => by
  unfold tilesP at ht
  obtain ⟨l, hl, ht2⟩ := List.mem_flatten.1 ht
  obtain ⟨k, hk, rfl⟩ := List.mem_map.1 hl
  have hk3 : k ≤ 2 := by have := List.mem_range.1 hk; have := h.t8; omega
  unfold tileK at ht2
  rcases List.mem_append.1 ht2 with h1 | h1
  · obtain ⟨a, b, c, d, e⟩ := hL k t h1
    exact ⟨by omega, b, by omega, by omega, by omega, e⟩
  · split at h1
    · rename_i hc
      rw [List.mem_singleton.1 h1]
      have h256 := (h.k.h k).1
      refine ⟨hk3, ?_, ?_, ?_, rfl, (h.k.h k).2⟩
      · show n / 2 ^ (8 * k) / 256 ≤ 65536
        have := Nat.div_le_self n (2 ^ (8 * k))
        omega
      · show 1 ≤ (G.es.getD k []).length
        have := hc.2
        omega
      · show (G.es.getD k []).length ≤ 256
        omega
    · cases h1
def leafN (k : Nat) : ByteArray := str leafB ++ str (Lib.decDigits k)
def leafPuts (n : Nat) (ls : List (List UInt8)) : List (ByteArray × ByteArray) := (List.range ls.length).map (fun i => (leafN (n + i), str (ls.getD i [])))
def tileT (t : LaidP) : ByteArray × ByteArray := (str (pathB t.1 t.2.1 t.2.2.1), str t.2.2.2.flatten)
def putsL (r : StD × EV) (ps : List (ByteArray × ByteArray)) : StD × EV := ps.foldl putP r
theorem putsL_snoc (r : StD × EV) (ps : List (ByteArray × ByteArray)) (p : ByteArray × ByteArray) : putsL r (ps ++ [p]) = putP (putsL r ps) p := by unfold putsL; rw [List.foldl_append]; rfl
theorem putsL_grow : ∀ (ps : List (ByteArray × ByteArray)) (r : StD × EV), (putsL r ps).1.nw ≤ r.1.nw + ps.length ∧ (putsL r ps).1.texts.length ≤ r.1.texts.length + ps.length
  | [], r => ⟨Nat.le_refl _, Nat.le_refl _⟩
  | p :: ps, r => by
    have h1 := putP_grow r p
    have h2 := putsL_grow ps (putP r p)
    show (putsL (putP r p) ps).1.nw ≤ _ ∧ (putsL (putP r p) ps).1.texts.length ≤ _
    rw [List.length_cons]
    omega
theorem leafPuts_snoc (n : Nat) (ls : List (List UInt8)) (s : List UInt8) : leafPuts n (ls ++ [s]) = leafPuts n ls ++ [(leafN (n + ls.length), str s)] := by
  unfold leafPuts
  rw [List.length_append, List.length_singleton, List.range_succ, List.map_append]
  congr 1
  · refine List.map_congr_left fun i hi => ?_
    have := List.mem_range.1 hi
    rw [List.getD_eq_getElem?_getD, List.getD_eq_getElem?_getD, List.getElem?_append_left this]
  · simp [List.getD_eq_getElem?_getD]
theorem leafPuts_len (n : Nat) (ls : List (List UInt8)) : (leafPuts n ls).length = ls.length := by simp [leafPuts]
/-- The hashes of leaves. -/
def leafHs (ls : List (List UInt8)) : List HB := ls.map leafH
theorem leafHs_32 (ls : List (List UInt8)) : H32 (leafHs ls) := fun h hh => by
  obtain ⟨s, _, rfl⟩ := List.mem_map.1 hh
  exact shaB_len _
theorem leafN_size (k : Nat) (hk : k < 18446744073709551616) : (leafN k).size ≤ 25 := by
  have h := dec_len k hk
  show (str leafB ++ str (Lib.decDigits k)).size ≤ 25
  rw [ByteArray.size_append, str_size, str_size]
  have : leafB.length = 5 := by rfl
  omega
end Go.Proofs.YtnkcfkjeeennmaaGreatDoor
