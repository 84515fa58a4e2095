/- wire.DecodeAnswer by a contract, of any bytes. wire.DecodeAnswer by a contract: an answer that is well; any bytes. wire.DecodeAnswer, of any bytes. -/
import Derived.Test.YtljnhelnmnomoaaGreatDoorDecAt
namespace Go.Proofs.YtljnhelnmnomoaaGreatDoor
open Go.RowKit Go.Lib


set_option maxRecDepth 8000 in
/-- Nothing, or no such code. -/
theorem decA_refuse {B : Nat} {se : Nat → Addr} {w : World} (G : Genv B se w) (s : ByteArray) (hs : s.size ≤ 1048576) (h : s.data.toList = [] ∨ ∃ c l, s.data.toList = c :: l ∧ 5 < c.toNat) :
    Calls Tryz.prog 20 #[.string s] w (DecAPostO se w (zeroA, some (3, some 0))) := by
  have d0 : ¬ (1048576 : Int) < s.size := by omega
  have X := (Upd.refl none' w).alloc (.cells zeroAns.toArray 70)
  have hb := blk_alloc w (.cells zeroAns.toArray 70)
  have C := wrong_any (G.ext X) 0
  simp only [zeroAns] at hb C
  have HX := Lib.hid X
  have HB := Lib.hid hb
  clear G X hs hb
  rcases h with h | ⟨c, l, h, hc⟩
  · obtain rfl : s = ⟨#[]⟩ := ByteArray.ext (Array.toList_eq_nil_iff.1 h)
    clear h d0
    go_enter Tryz.func20, Tryz.ntmps20
    go_wp2_with fail
    refine C.mono ?_
    rintro e w2 ⟨v, rfl, hv, u⟩
    have HZ := Lib.hid (Ext.blk u HB.out)
    have hzF := Lib.hid (blk_setRow HZ.out zeroAns.toArray)
    have HF : Hid (DecAPostO se w (zeroA, some (3, some 0)) (.returned (.tuple #[.agg zeroAns.toArray, v])) (w2.setRow w.heap.size zeroAns.toArray)) := Lib.hid ⟨none, 0, v, rfl, HashesAt.nil _ _, hv.upd ((Upd.refl (one w.heap.size) w2).setRow (.inr rfl) _) (hv.notat HZ.out), (HX.out.trans u).setRow (.inl (Nat.le_refl _)) _, own_nilA⟩
    clear hv u C
    go_wp2_with (refine store_all rfl 70 _ _ rfl w.heap.size rfl zeroAns rfl ans_size zeroAns 70 HZ.out rfl (ans_one _ _ _ _ rfl) ?_)
    exact bodyPost_ret (v := .tuple #[.agg zeroAns.toArray, v]) (resA _ _ w.heap.size _ _ rfl rfl hzF.out rfl) rfl HF.out
  · have hix := idx_str s c l h
    have he : s.toList.isEmpty = false := (empty_no s).2 (fun e => by subst e; simp at h)
    have dc : (5 : Int) < c.toNat := by omega
    clear h hc
    go_enter Tryz.func20, Tryz.ntmps20
    go_wp2_with fail
    refine C.mono ?_
    rintro e w2 ⟨v, rfl, hv, u⟩
    have HZ := Lib.hid (Ext.blk u HB.out)
    have hzF := Lib.hid (blk_setRow HZ.out zeroAns.toArray)
    have HF : Hid (DecAPostO se w (zeroA, some (3, some 0)) (.returned (.tuple #[.agg zeroAns.toArray, v])) (w2.setRow w.heap.size zeroAns.toArray)) := Lib.hid ⟨none, 0, v, rfl, HashesAt.nil _ _, hv.upd ((Upd.refl (one w.heap.size) w2).setRow (.inr rfl) _) (hv.notat HZ.out), (HX.out.trans u).setRow (.inl (Nat.le_refl _)) _, own_nilA⟩
    clear hv u C
    go_wp2_with (refine store_all rfl 70 _ _ rfl w.heap.size rfl zeroAns rfl ans_size zeroAns 70 HZ.out rfl (ans_one _ _ _ _ rfl) ?_)
    exact bodyPost_ret (v := .tuple #[.agg zeroAns.toArray, v]) (resA _ _ w.heap.size _ _ rfl rfl hzF.out rfl) rfl HF.out

/-- What is read of one byte on. -/
theorem decA_start {B : Nat} {se : Nat → Addr} {w : World} (G : Genv B se w) : Genv w.heap.size se (w.alloc (.cells zeroAns.toArray 70)) ∧ Ext w (w.alloc (.cells zeroAns.toArray 70)) ∧ (∀ k, one w.heap.size k → w.heap.size ≤ k ∧ k < (w.alloc (.cells zeroAns.toArray 70)).heap.size) := by
  have X := (Upd.refl none' w).alloc (.cells zeroAns.toArray 70)
  exact ⟨(G.up G.size (Nat.le_refl _)).ext X, X, fun k hk => by cases hk; exact ⟨Nat.le_refl _, by simp⟩⟩
/-- The answer's variable is laid. -/
theorem decA_var {se : Nat → Addr} {w w1 : World} {rb : Nat} {x : RdD} (R : RdS w.heap.size se w w1 (one w.heap.size) rb x) (hz : w1.heap[w.heap.size]? = some (.cells zeroAns.toArray 70 (0, 0))) (c : Nat) :
    DecAt w.heap.size se w (w1.alloc (.cells (ansCells ⟨c, 0, [], ⟨#[]⟩⟩ (.slice none 0 0)) 70)) (plus (one w.heap.size) w1.heap.size (w1.heap.size + 1)) rb x w1.heap.size w.heap.size ⟨c, 0, [], ⟨#[]⟩⟩ (.slice none 0 0) := by
  have X := (Upd.refl none' w1).alloc (.cells (ansCells ⟨c, 0, [], ⟨#[]⟩⟩ (.slice none 0 0)) 70)
  have R2 := R.grow (X.ext _)
  rw [World.size_alloc] at R2
  have hl := lt_of_blk hz
  exact ⟨R2, blk_alloc _ _, Ext.blk X hz, .inr ⟨Nat.le_refl _, Nat.lt_succ_self _⟩, .inl rfl, hl, World.ownsRow_nil _ _ _ _, fun g hg => by simp [Value.ownBlock] at hg⟩
theorem toNat8 (c : UInt8) : c.toNat < 256 := c.toNat_lt

set_option maxRecDepth 8000 in
set_option maxHeartbeats 4000000 in
/-- A code alone. -/
theorem decA_code {B : Nat} {se : Nat → Addr} {w : World} (G : Genv B se w) (s : ByteArray) (hs : s.size ≤ 1048576) (c : UInt8) (l : List UInt8) (h : s.data.toList = c :: l) (hc : c.toNat ≤ 5) (h0 : c.toNat ≠ 0)
    (HDEC : Hid (decA s = if RdD.fin ⟨s, 1, none⟩ = none then (⟨c.toNat, 0, [], ⟨#[]⟩⟩, none) else (zeroA, RdD.fin ⟨s, 1, none⟩))) :
    Calls Tryz.prog 20 #[.string s] w (DecAPostO se w (decA s)) := by
  have d0 : ¬ (1048576 : Int) < s.size := by omega
  have hix := idx_str s c l h
  have hfx := fixed_one s c l h
  have he : s.toList.isEmpty = false := (empty_no s).2 (fun e => by subst e; simp at h)
  have dc : ¬ (5 : Int) < c.toNat := by omega
  have dz : ((c.toNat : Int) == 0) = false := by simp; omega
  have hc8 := toNat8 c
  obtain ⟨g1, e1, d1⟩ := decA_start G
  have N := RdS.new g1 e1 (Nat.le_refl _) d1 s (by omega)
  rw [World.size_alloc] at N
  have HB := Lib.hid (blk_alloc w (.cells zeroAns.toArray 70))
  simp only [zeroAns] at N
  clear G h hc h0 g1 e1 d1
  generalize hcn : c.toNat = cn at *
  go_enter Tryz.func20, Tryz.ntmps20
  go_wp2_with fail
  refine N.mono ?_
  rintro e w1 ⟨rfl, R, u⟩
  have hz := Ext.blk u HB.out
  have C := R.fixed 1
  rw [hfx] at C
  have HZ := Lib.hid hz
  have HNB := Lib.hid R.nb
  clear N R u hz
  go_wp2_with fail
  refine C.mono ?_
  rintro e w2 ⟨rfl, R, u⟩
  have hz := u.blk HZ.out (fun e => HNB.out e.symm)
  have HA := Lib.hid (decA_var R hz cn)
  have hb2 := blk_alloc w2 (.cells (ansCells ⟨cn, 0, [], ⟨#[]⟩⟩ (.slice none 0 0)) 70)
  have c0 := cell_of_blk hb2 0
  simp only [ansCells, List.size_toArray, List.getElem?_toArray, List.getElem?_cons_zero, List.getElem?_cons_succ] at c0
  have HVO : Hid ((Value.slice none 0 0).oneCell' = true) := Lib.hid rfl
  clear C R u hz HNB hb2
  generalize hba : w2.heap.size = ba at HA c0 ⊢
  go_wp2_with fail
  have E := HA.out.r.end
  have HDE := HDEC.out
  generalize hfe : RdD.fin ⟨s, 1, none⟩ = fe at E HDE
  have HDF := Lib.hid HDE
  clear hfe HDE
  go_wp2_with fail
  refine E.mono ?_
  rintro e wE ⟨ev, rfl, hev, uE⟩
  have HAE := Lib.hid (HA.out.ext uE)
  clear E uE
  cases fe with
  | none =>
    obtain rfl : ev = .nilIface := hev
    have HLD := Lib.hid (fun (j : Nat) (u : Value) (hu : (ansCells ⟨cn, 0, [], ⟨#[]⟩⟩ (.slice none 0 0)).toList[j]? = some u) => show World.cell? wE ⟨ba, 0 + j, none⟩ = some u from by rw [cell_of_blk HAE.out.a]; simpa using hu)
    have HFE := Lib.hid (HAE.out.fin_ok (fun t ht => by simp at ht))
    have HZE := Lib.hid HAE.out.z
    have hzF := Lib.hid (blk_setRow HAE.out.z (ansCells ⟨cn, 0, [], ⟨#[]⟩⟩ (.slice none 0 0)))
    have eDD := HDF.out
    rw [if_pos rfl] at eDD
    have HDF2 := Lib.hid eDD
    clear eDD HDF HAE
    go_wp2_with (first
      | (refine wpList_loadAgg rfl 70 _ rfl ba 0 rfl (ansCells ⟨cn, 0, [], ⟨#[]⟩⟩ (.slice none 0 0)).toList Tryz.underlying70 rfl ans_size HLD.out ?_)
      | (refine store_all rfl 70 _ _ rfl w.heap.size rfl (ansCells ⟨cn, 0, [], ⟨#[]⟩⟩ (.slice none 0 0)).toList rfl ans_size zeroAns 70 HZE.out rfl (ans_one _ _ _ _ HVO.out) ?_))
    exact bodyPost_ret (v := .tuple #[.agg (ansCells ⟨cn, 0, [], ⟨#[]⟩⟩ (.slice none 0 0)), .nilIface]) (resA _ _ w.heap.size _ _ rfl rfl hzF.out rfl) rfl (by rw [HDF2.out]; exact HFE.out)
  | some ee =>
    have hi := (err_form hev).resolve_left (fun h => by simp at h)
    obtain ⟨⟨ti, yi, rfl⟩, _⟩ := hi
    have HFE := Lib.hid (HAE.out.fin_bad hev)
    have HZE := Lib.hid HAE.out.z
    have hzF := Lib.hid (blk_setRow HAE.out.z zeroAns.toArray)
    have eDD := HDF.out
    rw [if_neg (by simp)] at eDD
    have HDF2 := Lib.hid eDD
    clear eDD HDF HAE hev
    go_wp2_with (refine store_all rfl 70 _ _ rfl w.heap.size rfl zeroAns rfl ans_size zeroAns 70 HZE.out rfl (ans_one _ _ _ _ rfl) ?_)
    exact bodyPost_ret (v := .tuple #[.agg zeroAns.toArray, .iface ti yi]) (resA _ _ w.heap.size _ _ rfl rfl hzF.out rfl) rfl (by rw [HDF2.out]; exact HFE.out)

theorem hash_pos {x : RdD} (h : x.hash.2.f = none) : x.hash.2.pos = x.pos + 32 ∧ x.hash.2.s = x.s := by
  unfold RdD.hash at h ⊢
  split at h
  · rename_i hn; exact absurd h hn
  · rename_i hn
    rw [if_neg hn]
    unfold RdD.take at h ⊢
    split at h
    · rename_i h2; rw [if_pos h2]; exact ⟨rfl, rfl⟩
    · rename_i h2
      exact absurd h (by unfold RdD.fail; split <;> simp_all)
/-- The length of the list that a cell holds. -/
def lenAt (w : World) (a : Addr) : Nat := match w.cell? a with
  | some (.slice _ n _) => n
  | _ => 0
theorem decHs_more {n : Nat} {x0 x : RdD} {ls : List (List UInt8)} (h : decHs n x0 = (ls ++ (decHs (n - ls.length) x).1, (decHs (n - ls.length) x).2)) (hlt : ls.length < n) (hf : x.hash.2.f = none) :
    decHs n x0 = ((ls ++ [x.hash.1]) ++ (decHs (n - (ls ++ [x.hash.1]).length) x.hash.2).1, (decHs (n - (ls ++ [x.hash.1]).length) x.hash.2).2) := by
  obtain ⟨k, hk⟩ : ∃ k, n - ls.length = k + 1 := ⟨n - ls.length - 1, by omega⟩
  have e : n - (ls ++ [x.hash.1]).length = k := by simp; omega
  rw [h, hk, e]
  conv => lhs; unfold decHs
  rw [if_neg (by simp [hf])]
  simp
theorem decHs_stop {n : Nat} {x0 x : RdD} {ls : List (List UInt8)} (h : decHs n x0 = (ls ++ (decHs (n - ls.length) x).1, (decHs (n - ls.length) x).2)) (hlt : ls.length < n) (hf : x.hash.2.f ≠ none) :
    decHs n x0 = (ls, x.hash.2) := by
  obtain ⟨k, hk⟩ : ∃ k, n - ls.length = k + 1 := ⟨n - ls.length - 1, by omega⟩
  rw [h, hk]
  unfold decHs
  rw [if_pos hf]
  simp
theorem decHs_end {n : Nat} {x0 x : RdD} {ls : List (List UInt8)} (h : decHs n x0 = (ls ++ (decHs (n - ls.length) x).1, (decHs (n - ls.length) x).2)) (hlt : ls.length = n) : decHs n x0 = (ls, x) := by
  rw [h, show n - ls.length = 0 by omega]
  simp [decHs]
theorem info_hash : (Tryz.prog.info? 120).map (fun i => (i.zero, i.size, i.bytes)) = some (some (.agg zero32), 32, 32) := by kernel_rfl
theorem zero_hash : ((Tryz.prog.info? 120).bind (·.zero)).isSome = true := by kernel_rfl
theorem own_one {w : World} {B e size n : Nat} {v : Value} {xs : List Value} (h : w.ownsRow B e size v n xs) : v.oneCell' = true := by
  rcases own_form h with ⟨rfl, _⟩ | ⟨g, cap, rfl, _⟩ <;> rfl

set_option maxRecDepth 8000 in
set_option maxHeartbeats 8000000 in
/-- Behind the two numbers. -/
theorem decA_zero {B : Nat} {se : Nat → Addr} {w : World} (G : Genv B se w) (s : ByteArray) (hs : s.size ≤ 1048576) (c : UInt8) (l : List UInt8) (h : s.data.toList = c :: l) (h0 : c.toNat = 0)
    (size nn : Nat) (x0 : RdD) (hsize : (RdD.var ⟨s, 1, none⟩).1 = size) (hnn : (RdD.var ⟨s, 1, none⟩).2.var = (nn, x0))
    (HDEC : Hid (∀ ls xx, decHs nn x0 = (ls, xx) → decA s = if RdD.fin (xx.text 65536).2 = none then (⟨0, size, ls, str (xx.text 65536).1⟩, none) else (zeroA, RdD.fin (xx.text 65536).2))) :
    Calls Tryz.prog 20 #[.string s] w (DecAPostO se w (decA s)) := by
  have d0 : ¬ (1048576 : Int) < s.size := by omega
  have hix := idx_str s c l h
  have hfx := fixed_one s c l h
  have he : s.toList.isEmpty = false := (empty_no s).2 (fun e => by subst e; simp at h)
  rw [h0] at hix hfx
  have hn64 : nn < 18446744073709551616 := by have := var_lt (RdD.var ⟨s, 1, none⟩).2; rw [hnn] at this; exact this
  have hsz64 : size < 18446744073709551616 := by have := var_lt ⟨s, 1, none⟩; rw [hsize] at this; exact this
  have hx0s : x0.f = none → x0.s = s := fun hf => by
    have h1 : (RdD.var ⟨s, 1, none⟩).2.var.2.f = none := by rw [hnn]; exact hf
    have a1 := var_le (RdD.var ⟨s, 1, none⟩).2
    have a2 := var_le ⟨s, 1, none⟩
    rw [hnn] at a1
    exact a1.s.trans a2.s
  have hnf : x0.f ≠ none → nn = 0 := fun hf => by
    have e : (RdD.var ⟨s, 1, none⟩).2.var = (nn, x0) := hnn
    generalize (RdD.var ⟨s, 1, none⟩).2 = y at e
    unfold RdD.var at e
    split at e
    · rename_i hy
      split at e
      · rename_i a b hab
        obtain ⟨e1, e2⟩ := Prod.mk.inj e
        rw [← e2] at hf
        exact absurd hy hf
      · exact (Prod.mk.inj e).1.symm
    · exact (Prod.mk.inj e).1.symm
  have HX0 := Lib.hid hx0s
  have HNF := Lib.hid hnf
  have HNN := Lib.hid hnn
  have HSI := Lib.hid hsize
  obtain ⟨g1, e1, d1⟩ := decA_start G
  have N := RdS.new g1 e1 (Nat.le_refl _) d1 s (by omega)
  rw [World.size_alloc] at N
  have HB := Lib.hid (blk_alloc w (.cells zeroAns.toArray 70))
  have HSS := Lib.hid hs
  simp only [zeroAns] at N
  clear G h h0 g1 e1 d1 hx0s hnf hnn hsize hs
  go_enter Tryz.func20, Tryz.ntmps20
  go_wp2_with fail
  refine N.mono ?_
  rintro e w1 ⟨rfl, R, u⟩
  have hz := Ext.blk u HB.out
  have C := R.fixed 1
  rw [hfx] at C
  have HZ := Lib.hid hz
  have HNB := Lib.hid R.nb
  clear N R u hz
  go_wp2_with fail
  refine C.mono ?_
  rintro e w2 ⟨rfl, R, u⟩
  have hz := u.blk HZ.out (fun e => HNB.out e.symm)
  have HA := Lib.hid (decA_var R hz 0)
  have hb2 := blk_alloc w2 (.cells (ansCells ⟨0, 0, [], ⟨#[]⟩⟩ (.slice none 0 0)) 70)
  have c0 := cell_of_blk hb2 0
  simp only [ansCells, List.size_toArray, List.getElem?_toArray, List.getElem?_cons_zero, List.getElem?_cons_succ] at c0
  have CV := HA.out.r.var
  rw [HSI.out] at CV
  simp only [ansCells] at CV
  have HNX : Hid ((RdD.var ⟨s, 1, none⟩).2.var = (nn, x0)) := HNN
  clear C R u hz HNB hb2 HSI HNN
  generalize (RdD.var ⟨s, 1, none⟩).2 = x1 at CV HNX
  generalize plus (one w.heap.size) w2.heap.size (w2.heap.size + 1) = D0 at HA CV
  generalize hba : w2.heap.size = ba at HA c0 CV ⊢
  go_wp2_with fail
  refine CV.mono ?_
  rintro e w3 ⟨rfl, R, u⟩
  have HA1 := HA.out.rd R u
  have c1 := cell_of_blk HA1.a 1
  simp only [ansCells, List.size_toArray, List.getElem?_toArray, List.getElem?_cons_zero, List.getElem?_cons_succ] at c1
  have f1 := free_of_blk HA1.a 1
  have HA := Lib.hid (HA1.set 1 (.int .u64 size) ⟨0, size, [], ⟨#[]⟩⟩ rfl rfl)
  have CV := HA.out.r.var
  rw [HNX.out] at CV
  clear HA1 R u CV c0
  have CV := HA.out.r.var
  rw [HNX.out] at CV
  go_wp2_with fail
  refine CV.mono ?_
  rintro e w4 ⟨rfl, R, u⟩
  have HA := Lib.hid (HA.out.rd R u)
  clear R u CV c1 f1 HNX
  have HLA : Hid (∀ (wr : World) (v : Value) (ls : List (List UInt8)) (a : Option Addr) (cap : Nat), v = .slice a ls.length cap → wr.heap[ba]? = some (.cells (ansCells ⟨0, size, ls, ⟨#[]⟩⟩ v) 70 (0, 0)) → lenAt wr ⟨ba, 2, none⟩ = ls.length) := Lib.hid (fun wr v ls a cap hv hb => by
    have c2 := cell_of_blk hb 2
    simp only [ansCells, List.size_toArray, List.getElem?_toArray, List.getElem?_cons_zero, List.getElem?_cons_succ] at c2
    unfold lenAt
    rw [c2, hv])
  go_wp2_with fail
  go_loopw [] (fun wr => ∃ (D : Nat → Prop) (x : RdD) (v : Value) (ls : List (List UInt8)), DecAt w.heap.size se w wr D (w.heap.size + 1) x ba w.heap.size ⟨0, size, ls, ⟨#[]⟩⟩ v ∧ decHs nn x0 = (ls ++ (decHs (nn - ls.length) x).1, (decHs (nn - ls.length) x).2) ∧ ls.length ≤ nn ∧ (∀ t ∈ ls, t.length = 32) ∧ ((ls.length < nn → x.f = none) ∧ (x.f = none → x.s = s ∧ 32 * ls.length ≤ x.pos))) (fun wr => nn - lenAt wr ⟨ba, 2, none⟩)
  case atStart => exact ⟨D0, x0, _, [], HA.out, by simp, Nat.zero_le _, fun t ht => by simp at ht, fun hlt => Classical.byContradiction fun hf => by have := HNF.out hf; simp at hlt; omega, fun hf => ⟨HX0.out hf, by simp⟩⟩
  case round =>
    obtain ⟨D, x, v, ls, W, hdec, hle, hlen, hxf, hxs⟩ := hrel
    have HA := Lib.hid W
    have HDH := Lib.hid hdec
    have HLEN := Lib.hid hlen
    have HXF := Lib.hid hxf
    have HXS := Lib.hid hxs
    have HVO := Lib.hid (own_one W.row)
    have hform := own_form W.row
    have hvs : ∃ a cap, v = .slice a ls.length cap := by
      rcases hform with ⟨rfl, h0⟩ | ⟨g, cap, rfl, _⟩
      · have h0' : ls.length = 0 := h0
        exact ⟨none, 0, by rw [h0']⟩
      · exact ⟨_, cap, rfl⟩
    obtain ⟨va, vc, rfl⟩ := hvs
    have hla := HLA.out wr _ ls va vc rfl W.a
    have HLL := Lib.hid hla
    have c2 := cell_of_blk W.a 2
    simp only [ansCells, List.size_toArray, List.getElem?_toArray, List.getElem?_cons_zero, List.getElem?_cons_succ] at c2
    have hls64 : ls.length < 18446744073709551616 := by omega
    have HLE := Lib.hid hle
    clear W hdec hlen hxf hxs hform hla hle
    by_cases hlt : ls.length < nn
    · have hlti : (ls.length : Int) < nn := by omega
      have hxn := HXF.out hlt
      obtain ⟨hss, hpos⟩ := HXS.out hxn
      have hpz := HA.out.r.pos hxn
      have HPZ := Lib.hid (show ls.length ≤ 32768 by rw [hss] at hpz; have := HSS.out; omega)
      have CH := HA.out.r.hash
      have HHL := Lib.hid (hash_len x)
      have HHP := Lib.hid (hash_pos (x := x))
      have HMO := Lib.hid (decHs_more HDH.out hlt)
      have HST := Lib.hid (decHs_stop HDH.out hlt)
      have HP := Lib.hid hpos
      have HSX := Lib.hid hss
      clear hxn hpos hpz hss
      generalize x.hash.1 = hh at *
      generalize x.hash.2 = xh at *
      have HSZ := Lib.hid (hash_size32 hh HHL.out)
      have H1 := Lib.hid (hash_one hh)
      have HZ0 := Lib.hid (show zero32.size = (hh.map u8v).length by rw [List.length_map, HHL.out]; rfl)
      go_wp2_with fail
      refine CH.mono ?_
      rintro e w5 ⟨rfl, R, u⟩
      have HA1 := HA.out.rd R u
      have hbh := blk_alloc w5 (.cells (hh.map u8v).toArray 120)
      have X := (Upd.refl none' w5).alloc (.cells (hh.map u8v).toArray 120)
      have HA2 := Lib.hid (HA1.ext X)
      have CB := broken_any HA2.out.r
      have HBH := Lib.hid hbh
      clear HA1 R u hbh X CH c2
      by_cases hf : xh.f = none
      · have ed : decide (xh.f ≠ none) = false := by simp [hf]
        rw [ed] at CB
        have HFN := Lib.hid hf
        clear ed hf
        go_wp2_with (first
          | (refine store_new rfl 120 _ _ rfl _ _ rfl (hh.map u8v) rfl HSZ.out HZ0.out H1.out ?_))
        refine CB.mono ?_
        rintro e w6 ⟨rfl, R2, u⟩
        have HA3 := HA2.out.ext u
        have hb3 := Ext.blk u HBH.out
        have HL := Lib.hid (fun (j : Nat) (u : Value) (hu : (hh.map u8v)[j]? = some u) => show World.cell? w6 ⟨w5.heap.size, 0 + j, none⟩ = some u from by rw [cell_of_blk hb3]; simpa using hu)
        have X3 := (Upd.refl none' w6).alloc (.cells (hh.map u8v).toArray 120)
        have HA4 := Lib.hid (HA3.ext X3)
        have hb4 := blk_alloc w6 (.cells (hh.map u8v).toArray 120)
        have HN4 := Lib.hid (fun (j : Nat) (u : Value) (hu : (hh.map u8v)[j]? = some u) => show World.cell? _ ((⟨w6.heap.size, 0, none⟩ : Addr).add j) = some u from by
          have e : (⟨w6.heap.size, 0, none⟩ : Addr).add j = ⟨w6.heap.size, j, none⟩ := by unfold Addr.add; split <;> simp_all
          rw [e, cell_of_blk hb4]; simpa using hu)
        have HLN := Lib.hid (show (hh.map u8v).length = 1 * 32 by rw [List.length_map, HHL.out])
        have HP3 := Lib.hid (show 0 < (hh.map u8v).length ∧ (hh.map u8v).length ≤ 16777216 by rw [List.length_map, HHL.out]; decide)
        have HM := Lib.hid (show ls.length + 1 ≤ maxLen ∧ (ls.length + 1) * 32 ≤ 140737488355328 by have := HPZ.out; unfold maxLen; omega)
        have HNBa := Lib.hid (show ba + 1 ≤ (w6.alloc (.cells (hh.map u8v).toArray 120)).heap.size from lt_of_blk HA4.out.a)
        have c2 := cell_of_blk HA3.a 2
        simp only [ansCells, List.size_toArray, List.getElem?_toArray, List.getElem?_cons_zero, List.getElem?_cons_succ] at c2
        obtain ⟨i0, hi0, hz0, hz1, hz2⟩ := info_parts info_hash
        clear HA3 R2 u hb3 X3 hb4 CB
        go_wp2_with (first
          | (refine wpList_loadAgg rfl 120 _ rfl w5.heap.size 0 rfl (hh.map u8v) Tryz.underlying120 rfl HSZ.out HL.out ?_)
          | (refine wpList_buildOne rfl 68 120 _ rfl (hh.map u8v) rfl Tryz.underlying68 HSZ.out zero_hash HP3.out.1 HP3.out.2 ?_)
          | (at_builtin; (refine wpList_app rfl _ _ 68 rfl (ba + 1) 120 i0 _ 32 32 Tryz.underlying68 hi0 hz0 hz1 hz2 rfl (by decide) _ _ _ rfl HA4.out.row ⟨w6.heap.size, 0, none⟩ 1 1 (hh.map u8v) rfl HLN.out HN4.out H1.out HM.out.1 HM.out.2 HNBa.out ?_)))
        intro v' w7 ho hg hbl
        have hb7 := HA4.out.after hg
        have c2 := cell_of_blk hb7 2
        simp only [ansCells, List.size_toArray, List.getElem?_toArray, List.getElem?_cons_zero, List.getElem?_cons_succ] at c2
        have f2 := free_of_blk hb7 2
        have HA5 := Lib.hid (HA4.out.app hh ho hg (by simpa using hbl))
        have hform2 := own_form HA5.out.row
        clear ho hg hbl hb7 HL HN4 HLN HP3 HM HNBa hi0 hz0 hz1 hz2 HA4 HA2
        have hl2 : ∃ a2 cap2, v' = .slice a2 (ls.length + 1) cap2 := by
          rcases hform2 with ⟨rfl, h0⟩ | ⟨g, cap, rfl, _⟩
          · have : (ls ++ [hh]).length = 0 := h0
            simp at this
          · exact ⟨some ⟨g, 0, none⟩, cap, by show Value.slice (some ⟨g, 0, none⟩) (ls ++ [hh]).length cap = _; rw [List.length_append]; rfl⟩
        obtain ⟨a2, cap2, rfl⟩ := hl2
        clear hform2
        go_wp2_with fail
        refine ⟨⟨_, xh, _, ls ++ [hh], HA5.out, HMO.out HFN.out, by simp; omega, fun t ht => ?_, fun _ => HFN.out, fun _ => ?_⟩, ?_⟩
        · rcases List.mem_append.1 ht with ht | ht
          · exact HLEN.out t ht
          · rw [List.mem_singleton.1 ht]; exact HHL.out
        · obtain ⟨p1, p2⟩ := HHP.out HFN.out
          exact ⟨p2.trans HSX.out, by rw [p1]; have := HP.out; simp; omega⟩
        · have e2 := HLA.out _ _ (ls ++ [hh]) a2 cap2 (by simp) HA5.out.a
          have e1 := HLL.out
          rw [e1]
          refine Nat.lt_of_le_of_lt (Nat.le_of_eq (congrArg (fun k => nn - k) e2)) ?_
          simp only [List.length_append, List.length_cons, List.length_nil]
          omega
      · have ed : decide (xh.f ≠ none) = true := by simp [hf]
        rw [ed] at CB
        have HDEC := Lib.hid (HDEC.out ls xh (HST.out hf))
        have HLS := Lib.hid (show ∀ t ∈ (AnsD.mk 0 size ls ⟨#[]⟩).hs, t.length = 32 from HLEN.out)
        clear ed hf
        go_wp2_with (first
          | (refine store_new rfl 120 _ _ rfl _ _ rfl (hh.map u8v) rfl HSZ.out HZ0.out H1.out ?_))
        refine CB.mono ?_
        rintro e w6 ⟨rfl, R2, u⟩
        have HA := Lib.hid (HA2.out.ext u)
        clear R2 u CB HA2
        go_wp2_with fail
        have C := HA.out.r.text 65536 (by omega)
        go_wp2_with fail
        refine C.mono ?_
        rintro e wT ⟨rfl, RT, uT⟩
        have HT := HA.out.rd RT uT
        have c3 := cell_of_blk HT.a 3
        simp only [ansCells, List.size_toArray, List.getElem?_toArray, List.getElem?_cons_zero, List.getElem?_cons_succ] at c3
        have f3 := free_of_blk HT.a 3
        have HA := Lib.hid (HT.set 3 (.string (str (RdD.text xh 65536).1)) ⟨0, size, ls, str (RdD.text xh 65536).1⟩ rfl rfl)
        clear HT RT uT C
        generalize str (RdD.text xh 65536).1 = leaf at *
        generalize (RdD.text xh 65536).2 = xt at *
        have E := HA.out.r.end
        have HDE := HDEC.out
        generalize hfe : RdD.fin xt = fe at E HDE
        have HDF := Lib.hid HDE
        clear hfe HDE
        go_wp2_with fail
        refine E.mono ?_
        rintro e wE ⟨ev, rfl, hev, uE⟩
        have HAE := Lib.hid (HA.out.ext uE)
        clear E uE
        cases fe with
        | none =>
          obtain rfl : ev = .nilIface := hev
          have HLD := Lib.hid (fun (j : Nat) (u : Value) (hu : (ansCells ⟨0, size, ls, leaf⟩ (.slice va ls.length vc)).toList[j]? = some u) => show World.cell? wE ⟨ba, 0 + j, none⟩ = some u from by rw [cell_of_blk HAE.out.a]; simpa using hu)
          have HFE := Lib.hid (HAE.out.fin_ok HLEN.out)
          have HZE := Lib.hid HAE.out.z
          have hzF := Lib.hid (blk_setRow HAE.out.z (ansCells ⟨0, size, ls, leaf⟩ (.slice va ls.length vc)))
          have eDD := HDF.out
          rw [if_pos rfl] at eDD
          have HDF2 := Lib.hid eDD
          clear eDD HDF HAE
          go_wp2_with (first
            | (refine wpList_loadAgg rfl 70 _ rfl ba 0 rfl (ansCells ⟨0, size, ls, leaf⟩ (.slice va ls.length vc)).toList Tryz.underlying70 rfl ans_size HLD.out ?_)
            | (refine store_all rfl 70 _ _ rfl w.heap.size rfl (ansCells ⟨0, size, ls, leaf⟩ (.slice va ls.length vc)).toList rfl ans_size zeroAns 70 HZE.out rfl (ans_one _ _ _ _ HVO.out) ?_))
          exact bodyPost_ret (v := .tuple #[.agg (ansCells ⟨0, size, ls, leaf⟩ (.slice va ls.length vc)), .nilIface]) (resA _ _ w.heap.size _ _ rfl rfl hzF.out rfl) rfl (by rw [HDF2.out]; exact HFE.out)
        | some ee =>
          have hi := (err_form hev).resolve_left (fun h => by simp at h)
          obtain ⟨⟨ti, yi, rfl⟩, _⟩ := hi
          have HFE := Lib.hid (HAE.out.fin_bad hev)
          have HZE := Lib.hid HAE.out.z
          have hzF := Lib.hid (blk_setRow HAE.out.z zeroAns.toArray)
          have eDD := HDF.out
          rw [if_neg (by simp)] at eDD
          have HDF2 := Lib.hid eDD
          clear eDD HDF HAE hev
          go_wp2_with (refine store_all rfl 70 _ _ rfl w.heap.size rfl zeroAns rfl ans_size zeroAns 70 HZE.out rfl (ans_one _ _ _ _ rfl) ?_)
          exact bodyPost_ret (v := .tuple #[.agg zeroAns.toArray, .iface ti yi]) (resA _ _ w.heap.size _ _ rfl rfl hzF.out rfl) rfl (by rw [HDF2.out]; exact HFE.out)
    · have hlti : ¬ (ls.length : Int) < nn := by omega
      have HDEC := Lib.hid (HDEC.out ls x (decHs_end HDH.out (by have := HLE.out; omega)))
      go_wp2_with fail
      have C := HA.out.r.text 65536 (by omega)
      go_wp2_with fail
      refine C.mono ?_
      rintro e wT ⟨rfl, RT, uT⟩
      have HT := HA.out.rd RT uT
      have c3 := cell_of_blk HT.a 3
      simp only [ansCells, List.size_toArray, List.getElem?_toArray, List.getElem?_cons_zero, List.getElem?_cons_succ] at c3
      have f3 := free_of_blk HT.a 3
      have HA := Lib.hid (HT.set 3 (.string (str (RdD.text x 65536).1)) ⟨0, size, ls, str (RdD.text x 65536).1⟩ rfl rfl)
      clear HT RT uT C
      generalize str (RdD.text x 65536).1 = leaf at *
      generalize (RdD.text x 65536).2 = xt at *
      have E := HA.out.r.end
      have HDE := HDEC.out
      generalize hfe : RdD.fin xt = fe at E HDE
      have HDF := Lib.hid HDE
      clear hfe HDE
      go_wp2_with fail
      refine E.mono ?_
      rintro e wE ⟨ev, rfl, hev, uE⟩
      have HAE := Lib.hid (HA.out.ext uE)
      clear E uE
      cases fe with
      | none =>
        obtain rfl : ev = .nilIface := hev
        have HLD := Lib.hid (fun (j : Nat) (u : Value) (hu : (ansCells ⟨0, size, ls, leaf⟩ (.slice va ls.length vc)).toList[j]? = some u) => show World.cell? wE ⟨ba, 0 + j, none⟩ = some u from by rw [cell_of_blk HAE.out.a]; simpa using hu)
        have HFE := Lib.hid (HAE.out.fin_ok HLEN.out)
        have HZE := Lib.hid HAE.out.z
        have hzF := Lib.hid (blk_setRow HAE.out.z (ansCells ⟨0, size, ls, leaf⟩ (.slice va ls.length vc)))
        have eDD := HDF.out
        rw [if_pos rfl] at eDD
        have HDF2 := Lib.hid eDD
        clear eDD HDF HAE
        go_wp2_with (first
          | (refine wpList_loadAgg rfl 70 _ rfl ba 0 rfl (ansCells ⟨0, size, ls, leaf⟩ (.slice va ls.length vc)).toList Tryz.underlying70 rfl ans_size HLD.out ?_)
          | (refine store_all rfl 70 _ _ rfl w.heap.size rfl (ansCells ⟨0, size, ls, leaf⟩ (.slice va ls.length vc)).toList rfl ans_size zeroAns 70 HZE.out rfl (ans_one _ _ _ _ HVO.out) ?_))
        exact bodyPost_ret (v := .tuple #[.agg (ansCells ⟨0, size, ls, leaf⟩ (.slice va ls.length vc)), .nilIface]) (resA _ _ w.heap.size _ _ rfl rfl hzF.out rfl) rfl (by rw [HDF2.out]; exact HFE.out)
      | some ee =>
        have hi := (err_form hev).resolve_left (fun h => by simp at h)
        obtain ⟨⟨ti, yi, rfl⟩, _⟩ := hi
        have HFE := Lib.hid (HAE.out.fin_bad hev)
        have HZE := Lib.hid HAE.out.z
        have hzF := Lib.hid (blk_setRow HAE.out.z zeroAns.toArray)
        have eDD := HDF.out
        rw [if_neg (by simp)] at eDD
        have HDF2 := Lib.hid eDD
        clear eDD HDF HAE hev
        go_wp2_with (refine store_all rfl 70 _ _ rfl w.heap.size rfl zeroAns rfl ans_size zeroAns 70 HZE.out rfl (ans_one _ _ _ _ rfl) ?_)
        exact bodyPost_ret (v := .tuple #[.agg zeroAns.toArray, .iface ti yi]) (resA _ _ w.heap.size _ _ rfl rfl hzF.out rfl) rfl (by rw [HDF2.out]; exact HFE.out)

theorem decA_cons (s : ByteArray) (hs : ¬ 1048576 < s.size) (c : UInt8) (l : List UInt8) (h : s.data.toList = c :: l) (hc : ¬ 5 < c.toNat) :
    decA s = let r : AnsD × RdD := if c.toNat = 0 then decBody s else (⟨c.toNat, 0, [], ⟨#[]⟩⟩, ⟨s, 1, none⟩)
      if r.2.fin = none then (r.1, none) else (zeroA, r.2.fin) := by
  unfold decA
  rw [if_neg hs, h]
  simp only
  rw [if_neg hc]
theorem decA_own {B : Nat} {se : Nat → Addr} {w : World} (G : Genv B se w) (s : ByteArray) (hs : s.size ≤ 9223372036854775807) :
    Calls Tryz.prog 20 #[.string s] w (DecAPostO se w (decA s)) := by
  by_cases hl : 1048576 < s.size
  · have e : decA s = (zeroA, some (4, none)) := by unfold decA; rw [if_pos hl]
    rw [e]; exact decA_long G s hl hs
  · cases h : s.data.toList with
    | nil =>
      have e : decA s = (zeroA, some (3, some 0)) := by unfold decA; rw [if_neg hl, h]
      rw [e]; exact decA_refuse G s (by omega) (.inl h)
    | cons c l =>
      by_cases hc : 5 < c.toNat
      · have e : decA s = (zeroA, some (3, some 0)) := by unfold decA; rw [if_neg hl, h]; simp only; rw [if_pos hc]
        rw [e]; exact decA_refuse G s (by omega) (.inr ⟨c, l, h, hc⟩)
      · have e := decA_cons s hl c l h hc
        by_cases h0 : c.toNat = 0
        · rw [if_pos h0] at e
          refine decA_zero G s (by omega) c l h h0 _ _ _ rfl rfl (Lib.hid (fun ls xx hd => ?_))
          rw [e]
          unfold decBody
          simp only
          have hd2 : decHs (RdD.var (RdD.var ⟨s, 1, none⟩).2).1 (RdD.var (RdD.var ⟨s, 1, none⟩).2).2 = (ls, xx) := hd
          rw [hd2]
        · rw [if_neg h0] at e
          exact decA_code G s (by omega) c l h (by omega) h0 (Lib.hid e)
theorem decA_any {B : Nat} {se : Nat → Addr} {w : World} (G : Genv B se w) (s : ByteArray) (hs : s.size ≤ 9223372036854775807) :
    Calls Tryz.prog 20 #[.string s] w (DecAPost se w (decA s)) := (decA_own G s hs).mono fun _ _ ⟨ad, cap, v, h1, h2, h3, h4, _⟩ => ⟨ad, cap, v, h1, h2, h3, h4⟩
end Go.Proofs.YtljnhelnmnomoaaGreatDoor
