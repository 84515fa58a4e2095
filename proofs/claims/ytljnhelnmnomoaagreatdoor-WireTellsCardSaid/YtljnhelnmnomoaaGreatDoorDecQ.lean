/- wire.DecodeQuery: the walk, of any bytes whose kind has no leaves. -/
import Derived.Test.YtljnhelnmnomoaaGreatDoorQAt
import Derived.Test.YtljnhelnmnomoaaGreatDoorInv
namespace Go.Proofs.YtljnhelnmnomoaaGreatDoor
open Go.RowKit Go.Lib

set_option maxRecDepth 8000 in
theorem decQ_long {B : Nat} {se : Nat → Addr} {w : World} (G : Genv B se w) (s : ByteArray) (hs : 1048576 < s.size) (hs2 : s.size ≤ 9223372036854775807) :
    Calls Tryz.prog 15 #[.string s] w (DecQPostO se w (zeroQ, some (4, none))) := by
  have d0 : (1048576 : Int) < s.size := by omega
  have X := (Upd.refl none' w).alloc (.cells zeroQry.toArray 27)
  have hb := blk_alloc w (.cells zeroQry.toArray 27)
  have cg := (G.ext X).cell 4 (by omega) (by omega)
  have cg' : (w.alloc (.cells zeroQry.toArray 27)).cell? ⟨1, 0, none⟩ = some (sv se 4) := cg
  simp only [zeroQry] at cg' hb
  clear G X cg
  go_enter Tryz.func15, Tryz.ntmps15
  go_wp2_with fail
  go_region
  go_wp2_with fail
  have hb2 : ((w.alloc (.cells zeroQry.toArray 27)).drew).heap[w.heap.size]? = some (.cells zeroQry.toArray 27 (0, 0)) := hb
  exact bodyPost_ret (v := .tuple #[.agg zeroQry.toArray, sv se 4]) (resQ _ _ w.heap.size zeroQry.toArray _ rfl rfl hb2 rfl) rfl ⟨none, 0, sv se 4, rfl, TextsAt.nil _ _, ⟨by omega, by omega, rfl⟩, by first | exact ((Upd.refl none' w).alloc _).drew | exact (Upd.refl none' w).alloc _, own_nil⟩
theorem decQ_empty {B : Nat} {se : Nat → Addr} {w : World} (G : Genv B se w) : Calls Tryz.prog 15 #[.string ⟨#[]⟩] w (DecQPostO se w (zeroQ, some (3, some 0))) := by
  have X := (Upd.refl none' w).alloc (.cells zeroQry.toArray 27)
  have hb := blk_alloc w (.cells zeroQry.toArray 27)
  have C := wrong_any (G.ext X) 0
  simp only [zeroQry] at hb C
  have HX := Lib.hid X
  have HB := Lib.hid hb
  clear G X hb
  go_enter Tryz.func15, Tryz.ntmps15
  go_wp2_with fail
  refine C.mono ?_
  rintro e w2 ⟨v, rfl, hv, u⟩
  have HZ := Lib.hid (Ext.blk u HB.out)
  have hzF := Lib.hid (blk_setRow HZ.out zeroQry.toArray)
  have HF : Hid (DecQPostO se w (zeroQ, some (3, some 0)) (.returned (.tuple #[.agg zeroQry.toArray, v])) (w2.setRow w.heap.size zeroQry.toArray)) := Lib.hid (refuseQ HZ.out (HX.out.trans u) hv)
  clear hv u C
  go_wp2_with (refine store_whole rfl 27 _ _ rfl w.heap.size rfl zeroQry rfl qry_size zeroQry 27 HZ.out rfl (qry_one zeroQ _ rfl) ?_)
  exact bodyPost_ret (v := .tuple #[.agg zeroQry.toArray, v]) (resQ _ _ w.heap.size _ _ rfl rfl hzF.out rfl) rfl HF.out
theorem decQ_start {B : Nat} {se : Nat → Addr} {w : World} (G : Genv B se w) : Genv w.heap.size se (w.alloc (.cells zeroQry.toArray 27)) ∧ Ext w (w.alloc (.cells zeroQry.toArray 27)) ∧ (∀ k, one w.heap.size k → w.heap.size ≤ k ∧ k < (w.alloc (.cells zeroQry.toArray 27)).heap.size) := by
  have X := (Upd.refl none' w).alloc (.cells zeroQry.toArray 27)
  exact ⟨(G.up G.size (Nat.le_refl _)).ext X, X, fun k hk => by cases hk; exact ⟨Nat.le_refl _, by simp⟩⟩
/-- The query's variable is laid, and the ask's. -/
theorem QAt.start {se : Nat → Addr} {w w1 w3 : World} {rb : Nat} {x : RdD} (R : RdS w.heap.size se w w1 (one w.heap.size) rb x) (hz : w1.heap[w.heap.size]? = some (.cells zeroQry.toArray 27 (0, 0))) (q : QryD) (hq : q.leaves = []) (u : Ext (w1.alloc (.cells (qCells q (.slice none 0 0)).toArray 27)) w3) (ak : Array Value) :
    ∃ D, QAt w.heap.size se w (w3.alloc (.cells ak 83)) D rb x w1.heap.size w.heap.size w3.heap.size q (.slice none 0 0) ak := by
  have X := (Upd.refl none' w1).alloc (.cells (qCells q (.slice none 0 0)).toArray 27)
  have X3 := (Upd.refl none' w3).alloc (.cells ak 83)
  have R2 := ((R.grow (X.ext _)).ext u).grow (X3.ext _)
  have hl := lt_of_blk hz
  have hb := blk_alloc w1 (.cells (qCells q (.slice none 0 0)).toArray 27)
  have hs := u.size
  rw [World.size_alloc] at hs
  exact ⟨_, R2, Ext.blk X3 (Ext.blk u hb), Ext.blk X3 (Ext.blk u (Ext.blk X hz)), blk_alloc _ _, .inl (.inr ⟨Nat.le_refl _, by simp⟩), .inl (.inl rfl), .inr ⟨Nat.le_refl _, by simp⟩, hl, by omega, by rw [hq]; exact World.ownsRow_nil _ _ _ _, fun g hg => by simp [Value.ownBlock] at hg⟩
theorem inv_eqlInt {P : Program} {ops : Array Oper} {I : World → Prop} {Q : Act → Prop} {rest : List Oper} {o : Oper} {a : Act} {x y : Operand} {ty tr : TypeId} (hw : Region.wanted o (yielded ops a.tmps) = true) (ho : o.op = .binOp .eql ty x y tr) (m n : Int) (b : Bool) (hb : (m == n) = b)
    (hx : a.eval x = .int .i64 m) (hy : a.eval y = .int .i64 n) (h : wpInv P ops I Q rest (a.put o.dst (.bool b))) : wpInv P ops I Q (o :: rest) a := by
  refine inv_pure hw (fun w => ?_) h
  subst hb
  unfold execOp
  simp only [ho, hx, hy]
  simp [eqGuard, go_sem]
theorem body_goes : hasBody Tryz.prog 51 = true := by kernel_rfl
theorem decNums_drop (l : List Nat) (j i : Nat) (h : l[j]? = some i) (q : QryD) (x : RdD) : decNums (l.drop j) q x = decNums (l.drop (j + 1)) (setQ q i x.var.1) x.var.2 := by
  have hlt := (List.getElem?_eq_some_iff.1 h).1
  rw [List.drop_eq_getElem_cons hlt]
  have : l[j] = i := (List.getElem?_eq_some_iff.1 h).2
  rw [this]; rfl

set_option maxRecDepth 8000 in
set_option maxHeartbeats 8000000 in
theorem decQ_main {B : Nat} {se : Nat → Addr} {w : World} (G : Genv B se w) (A : Asks B w) (s : ByteArray) (hs : s.size ≤ 1048576) (c : UInt8) (l : List UInt8) (h : s.data.toList = c :: l) (hL : askL c.toNat = false) :
    Calls Tryz.prog 15 #[.string s] w (DecQPostO se w (decQ s)) := by
  have d0 : ¬ (1048576 : Int) < s.size := by omega
  have hfx := fixed_one s c l h
  have he : s.toList.isEmpty = false := (empty_no s).2 (fun e => by subst e; simp at h)
  have hc8 : c.toNat < 256 := c.toNat_lt
  have hd0 : decQ s = if okQ c.toNat = false then (zeroQ, some (3, some 0)) else
    match l with
    | [] => (zeroQ, some (3, some 1))
    | e :: _ => if goesB c.toNat e.toNat = false then (zeroQ, some (3, some 1)) else
      finQ (decNums (askN c.toNat) ⟨c.toNat, e.toNat, 0, 0, 0, 0, 0, []⟩ ⟨s, 2, none⟩).1 (decNums (askN c.toNat) ⟨c.toNat, e.toNat, 0, 0, 0, 0, 0, []⟩ ⟨s, 2, none⟩).2 := by
    unfold decQ
    rw [if_neg (by omega), h]
    simp only [hL]
    rfl
  obtain ⟨g1, e1, d1⟩ := decQ_start G
  have N := RdS.new g1 e1 (Nat.le_refl _) d1 s (by omega)
  rw [World.size_alloc] at N
  have HB := Lib.hid (blk_alloc w (.cells zeroQry.toArray 27))
  have HD0 := Lib.hid hd0
  have HLL := Lib.hid hL
  have HH := Lib.hid h
  have HASK := Lib.hid A
  simp only [zeroQry] at N
  clear G h g1 e1 d1 hd0 hL A hs
  generalize hcn : c.toNat = cn at *
  go_enter Tryz.func15, Tryz.ntmps15
  go_wp2_with fail
  refine N.mono ?_
  rintro e w1 ⟨rfl, R, u⟩
  have hz := Ext.blk u HB.out
  have C := R.fixed 1
  rw [hfx] at C
  have HZ := Lib.hid hz
  have HNB := Lib.hid R.nb
  clear N R u hz
  go_wp2_with fail
  refine C.mono ?_
  rintro e w2 ⟨rfl, R, u⟩
  have hz := u.blk HZ.out (fun e => HNB.out e.symm)
  have X := (Upd.refl none' w2).alloc (.cells (qCells ⟨cn, 0, 0, 0, 0, 0, 0, []⟩ (.slice none 0 0)).toArray 27)
  have CO := of_any (HASK.out.ext (R.e.trans X)) cn hc8
  have HR := Lib.hid R
  have HZ2 := Lib.hid hz
  have HX := Lib.hid X
  simp only [qCells] at CO
  clear C R u hz HNB X
  go_wp2_with fail
  refine CO.mono ?_
  rintro e w3 ⟨a, cap, rfl, hi, u⟩
  obtain ⟨D, hqa⟩ := QAt.start HR.out HZ2.out ⟨cn, 0, 0, 0, 0, 0, 0, []⟩ rfl u #[.bool (askE cn), .slice a (askN cn).length cap, .bool (askL cn)]
  have HQ0 := Lib.hid hqa
  have HI := Lib.hid (hi.back HASK.out.size (HR.out.e.trans (HX.out.trans u)))
  have hlt2 := hqa.lt2
  have HL2 := Lib.hid hlt2
  clear hi u hqa HR HZ2 HX CO hlt2
  generalize w2.heap.size = bq at HQ0 HL2 ⊢
  have okc : okQ cn = false ∨ okQ cn = true := by cases okQ cn <;> simp
  rcases okc with hok | hok
  · rw [hok]
    have hres := HD0.out
    rw [if_pos hok] at hres
    have HRES := Lib.hid hres
    have HGW := Lib.hid HQ0.out.r.g
    have HEW := Lib.hid HQ0.out.r.e
    have HZW := Lib.hid HQ0.out.z
    clear hres hok
    have CW := wrong_any HGW.out 0
    go_wp2_with fail
    refine CW.mono ?_
    rintro e wx ⟨v, rfl, hv, ux⟩
    have HZX := Lib.hid (Ext.blk ux HZW.out)
    have HPX : Hid (DecQPostO se w (decQ s) (.returned (.tuple #[.agg zeroQry.toArray, v])) (wx.setRow w.heap.size zeroQry.toArray)) := Lib.hid (by rw [HRES.out]; exact refuseQ HZX.out (HEW.out.trans ux) hv)
    have hzF := Lib.hid (blk_setRow HZX.out zeroQry.toArray)
    clear hv ux CW
    go_wp2_with (refine store_whole rfl 27 _ _ rfl w.heap.size rfl zeroQry rfl qry_size zeroQry 27 HZX.out rfl (qry_one zeroQ _ rfl) ?_)
    exact bodyPost_ret (v := .tuple #[.agg zeroQry.toArray, v]) (resQ _ _ w.heap.size _ _ rfl rfl hzF.out rfl) rfl HPX.out
  · rw [hok]
    have hd1 := HD0.out
    rw [if_neg (by rw [hok]; simp)] at hd1
    have HD1 := Lib.hid hd1
    clear hd1 hok
    go_wp2_with fail
    generalize hba : w3.heap.size = ba at HQ0 HL2 ⊢
    generalize hwq : w3.alloc (.cells #[.bool (askE cn), .slice a (askN cn).length cap, .bool (askL cn)] 83) = wq at HQ0 ⊢
    clear hba hwq
    cases l with
    | nil =>
      have HRES := Lib.hid HD1.out
      have hs1 : s.size = 1 := by
        have e1 : s.data.toList.length = s.size := by rw [Array.length_toList]; rfl
        rw [HH.out] at e1; simpa using e1.symm
      have HS1 := Lib.hid hs1
      refine region_inv (Ext wq) (by kernel_rfl) (by kernel_rfl) ((Upd.refl none' wq).drew) ?_
      refine inv_move rfl rfl (.string s) rfl ?_
      refine inv_norm (by go_simp; all_goals exact rfl) ?_
      refine inv_pure (v := .int .i64 s.size) rfl (fun w => by go_simp; all_goals rfl) ?_
      refine inv_norm (by go_simp; all_goals exact rfl) ?_
      refine inv_pure (v := .bool true) rfl (fun w => by simp [execOp, Act.eval, Act.put, hs1]; all_goals rfl) ?_
      refine inv_norm (by go_simp; all_goals exact rfl) ?_
      refine inv_move rfl rfl (.bool true) rfl ?_
      refine inv_norm (by go_simp; all_goals exact rfl) ?_
      refine inv_skip rfl ?_
      refine inv_norm (by go_simp; all_goals exact rfl) ?_
      refine inv_skip rfl ?_
      refine inv_norm (by go_simp; all_goals exact rfl) ?_
      refine inv_skip rfl ?_
      refine inv_norm (by go_simp; all_goals exact rfl) ?_
      refine inv_skip rfl ?_
      refine inv_norm (by go_simp; all_goals exact rfl) ?_
      refine inv_skip rfl ?_
      refine inv_norm (by go_simp; all_goals exact rfl) ?_
      refine inv_pick rfl rfl true (.bool true) rfl rfl ?_
      refine inv_norm (by go_simp; all_goals exact rfl) ?_
      intro w7 h7
      have HQ7 := Lib.hid (HQ0.out.ext h7)
      have HGW := Lib.hid HQ7.out.r.g
      have HEW := Lib.hid HQ7.out.r.e
      have HZW := Lib.hid HQ7.out.z
      clear h7 hs1
      have CW := wrong_any HGW.out 1
      go_wp2_with fail
      refine CW.mono ?_
      rintro e wx ⟨v, rfl, hv, ux⟩
      have HZX := Lib.hid (Ext.blk ux HZW.out)
      have HPX : Hid (DecQPostO se w (decQ s) (.returned (.tuple #[.agg zeroQry.toArray, v])) (wx.setRow w.heap.size zeroQry.toArray)) := Lib.hid (by rw [HRES.out]; exact refuseQ HZX.out (HEW.out.trans ux) hv)
      have hzF := Lib.hid (blk_setRow HZX.out zeroQry.toArray)
      clear hv ux CW
      go_wp2_with (refine store_whole rfl 27 _ _ rfl w.heap.size rfl zeroQry rfl qry_size zeroQry 27 HZX.out rfl (qry_one zeroQ _ rfl) ?_)
      exact bodyPost_ret (v := .tuple #[.agg zeroQry.toArray, v]) (resQ _ _ w.heap.size _ _ rfl rfl hzF.out rfl) rfl HPX.out
    | cons d l =>
      have hsz2 : 2 ≤ s.size := by
        have e1 : s.data.toList.length = s.size := by rw [Array.length_toList]; rfl
        rw [HH.out] at e1; simp at e1; omega
      have hs1 : ((s.size : Int) == 1) = false := by simp; omega
      have hix := idx_str1 s c d l HH.out
      have hfx2 := fixed_two s c d l HH.out
      have hd8 : d.toNat < 256 := d.toNat_lt
      have hd2 : decQ s = if goesB cn d.toNat = false then (zeroQ, some (3, some 1)) else finQ (decNums (askN cn) ⟨cn, d.toNat, 0, 0, 0, 0, 0, []⟩ ⟨s, 2, none⟩).1 (decNums (askN cn) ⟨cn, d.toNat, 0, 0, 0, 0, 0, []⟩ ⟨s, 2, none⟩).2 := HD1.out
      have HIQ := Lib.hid (fun (w7 : World) (h7 : Ext wq w7) (j : Nat) (u : Value) (hu : ([.bool (askE cn), .slice a (askN cn).length cap, .bool (askL cn)] : List Value)[j]? = some u) => show w7.cell? ⟨ba, 0 + j, none⟩ = some u from by rw [cell_of_blk (Ext.blk h7 HQ0.out.k)]; simpa using hu)
      generalize hdn : d.toNat = dn at *
      have HGO := Lib.hid (fun (w7 : World) (h7 : Ext wq w7) => (goes_any cn dn hd8 a (askN cn).length cap w7).mono (R' := fun e w8 => e = .returned (.bool (goesB cn dn)) ∧ Ext wq w8) (by rintro e w8 ⟨rfl, u⟩; exact ⟨rfl, h7.trans u⟩))
      have HD2 := Lib.hid hd2
      clear hd2
      refine region_inv (Ext wq) (by kernel_rfl) (by kernel_rfl) ((Upd.refl none' wq).drew) ?_
      refine inv_move rfl rfl (.string s) rfl ?_
      refine inv_norm (by go_simp; all_goals exact rfl) ?_
      refine inv_pure (v := .int .i64 s.size) rfl (fun w => by go_simp; all_goals rfl) ?_
      refine inv_norm (by go_simp; all_goals exact rfl) ?_
      refine inv_eqlInt rfl rfl s.size 1 false hs1 rfl rfl ?_
      refine inv_norm (by go_simp; all_goals exact rfl) ?_
      refine inv_move rfl rfl (.bool false) rfl ?_
      refine inv_norm (by go_simp; all_goals exact rfl) ?_
      refine inv_loadAgg rfl 83 _ rfl ba 0 rfl [.bool (askE cn), .slice a (askN cn).length cap, .bool (askL cn)] Tryz.underlying83 rfl ask_size HIQ.out ?_
      refine inv_norm (by go_simp; all_goals exact rfl) ?_
      refine inv_move rfl rfl (.string s) rfl ?_
      refine inv_norm (by go_simp; all_goals exact rfl) ?_
      refine inv_pure (v := .int .u8 dn) rfl (fun w => by simp [execOp, Act.eval, Act.put, hix]; all_goals rfl) ?_
      refine inv_norm (by go_simp; all_goals exact rfl) ?_
      refine inv_call (v := .bool (goesB cn dn)) rfl 51 [.tmp 41, .tmp 43] _ rfl body_goes [.agg #[.bool (askE cn), .slice a (askN cn).length cap, .bool (askL cn)], .int .u8 dn] rfl HGO.out ?_
      refine inv_norm (by go_simp; all_goals exact rfl) ?_
      refine inv_not rfl rfl (goesB cn dn) rfl ?_
      refine inv_norm (by go_simp; all_goals exact rfl) ?_
      refine inv_pick rfl rfl false (.bool !goesB cn dn) rfl rfl ?_
      refine inv_norm (by go_simp; all_goals exact rfl) ?_
      intro w7 h7
      have HQ7 := Lib.hid (HQ0.out.ext h7)
      clear h7 hs1 hix HIQ HGO HQ0
      have gcc : goesB cn dn = false ∨ goesB cn dn = true := by cases goesB cn dn <;> simp
      rcases gcc with hg | hg
      · rw [hg]
        have hres := HD2.out
        rw [if_pos hg] at hres
        have HRES := Lib.hid hres
        have HGW := Lib.hid HQ7.out.r.g
        have HEW := Lib.hid HQ7.out.r.e
        have HZW := Lib.hid HQ7.out.z
        clear hres hg
        have CW := wrong_any HGW.out 1
        go_wp2_with fail
        refine CW.mono ?_
        rintro e wx ⟨v, rfl, hv, ux⟩
        have HZX := Lib.hid (Ext.blk ux HZW.out)
        have HPX : Hid (DecQPostO se w (decQ s) (.returned (.tuple #[.agg zeroQry.toArray, v])) (wx.setRow w.heap.size zeroQry.toArray)) := Lib.hid (by rw [HRES.out]; exact refuseQ HZX.out (HEW.out.trans ux) hv)
        have hzF := Lib.hid (blk_setRow HZX.out zeroQry.toArray)
        clear hv ux CW
        go_wp2_with (refine store_whole rfl 27 _ _ rfl w.heap.size rfl zeroQry rfl qry_size zeroQry 27 HZX.out rfl (qry_one zeroQ _ rfl) ?_)
        exact bodyPost_ret (v := .tuple #[.agg zeroQry.toArray, v]) (resQ _ _ w.heap.size _ _ rfl rfl hzF.out rfl) rfl HPX.out
      · rw [hg]
        have hd3 := HD2.out
        rw [if_neg (by rw [hg]; simp)] at hd3
        have HD3 := Lib.hid hd3
        have C := HQ7.out.r.fixed 1
        rw [hfx2] at C
        clear hd3 hg
        go_wp2_with fail
        refine C.mono ?_
        rintro e w8 ⟨rfl, R, u⟩
        have HQ8 := HQ7.out.rd R u
        have c1 := cell_of_blk HQ8.a 1
        simp only [qCells, List.size_toArray, List.getElem?_toArray, List.getElem?_cons_zero, List.getElem?_cons_succ] at c1
        have f1 := free_of_blk HQ8.a 1
        have HQ9 := Lib.hid (HQ8.set 1 (.int .u8 dn) ⟨cn, dn, 0, 0, 0, 0, 0, []⟩ rfl rfl)
        have hk9 := HQ9.out.k
        have k1 := cell_of_blk hk9 1
        simp only [List.size_toArray, List.getElem?_toArray, List.getElem?_cons_zero, List.getElem?_cons_succ] at k1
        clear HQ8 R u C hk9
        go_wp2_with fail
        clear k1
        generalize w8.setCell ⟨bq, 1, none⟩ (.int .u8 dn) = w9 at HQ9 ⊢
        go_loopw [56] (fun iv wr => ∃ (j : Nat) (q : QryD) (x : RdD), iv = .int .i64 j ∧ j ≤ (askN cn).length ∧ QAt w.heap.size se w wr D (w.heap.size + 1) x bq w.heap.size ba q (.slice none 0 0) #[.bool (askE cn), .slice a (askN cn).length cap, .bool (askL cn)] ∧ q.leaves = [] ∧ decNums (askN cn) ⟨cn, dn, 0, 0, 0, 0, 0, []⟩ ⟨s, 2, none⟩ = decNums ((askN cn).drop j) q x) (fun iv _ => (askN cn).length - (RowKit.intOf iv).toNat)
        case atStart => exact ⟨0, _, _, rfl, Nat.zero_le _, HQ9.out, rfl, by rw [List.drop_zero]⟩
        case round =>
          obtain ⟨j, q, x, rfl, hj, hqa, hlv, hdn2⟩ := hrel
          have HQA := Lib.hid hqa
          have HLV0 := Lib.hid hlv
          have HDN := Lib.hid hdn2
          clear hqa hlv hdn2 HQ9
          by_cases hlt : j < (askN cn).length
          · have hg := List.getElem?_eq_getElem hlt
            obtain ⟨b, o, rfl, hbB, hc⟩ := HI.out j _ hg
            have hc2 := Ext.cellv HQA.out.r.e hc
            have hi5 := askN_mem cn _ (List.getElem_mem hlt)
            have HDD := Lib.hid (decNums_drop (askN cn) j _ hg q x)
            have hlti : (j : Int) < (askN cn).length := by omega
            have hlen3 := askN_small cn
            generalize (askN cn)[j] = i at *
            have CN := number_any bq i hi5 wr
            have CV := HQA.out.r.var
            have HRC := Lib.hid (fun (v : Value) (m : Nat) => set_num q v i m hi5)
            have HNC := Lib.hid (num_cell q (.slice none 0 0) i hi5)
            have HM64 := Lib.hid (var_lt x)
            clear hg hc hbB
            generalize hxv : x.var.1 = m at *
            generalize hxr : x.var.2 = x2 at *
            go_wp2_with fail
            refine CN.mono ?_
            rintro e w10 ⟨rfl, rfl⟩
            go_wp2_with fail
            refine CV.mono ?_
            rintro e w10 ⟨rfl, R, u⟩
            have hq10 := HQA.out.rd R u
            have ci := cell_of_blk hq10.a (i + 2)
            rw [List.getElem?_toArray, HNC.out] at ci
            have fi := free_of_blk hq10.a (i + 2)
            have HQB := Lib.hid (hq10.set (i + 2) (.int .u64 m) (setQ q i m) (HRC.out (.slice none 0 0) m).2 (HRC.out (.slice none 0 0) m).1)
            clear hq10 R u CN CV hxv hxr
            go_wp2_with fail
            exact ⟨⟨j + 1, _, _, by simp, by omega, HQB.out, by rw [(HRC.out (.slice none 0 0) m).2]; exact HLV0.out, by rw [HDN.out, HDD.out]⟩, by simp [RowKit.intOf]; omega⟩
          · obtain rfl : j = (askN cn).length := by omega
            have hfin := HDN.out
            rw [List.drop_length] at hfin
            have hdec := HD3.out
            rw [hfin] at hdec
            have HDEC : Hid (decQ s = finQ q x) := Lib.hid hdec
            have HLV : Hid (∀ t ∈ q.leaves, t.size ≤ 9223372036854775807) := Lib.hid (fun t ht => by rw [HLV0.out] at ht; simp at ht)
            have k2 := cell_of_blk HQA.out.k 2
            simp only [List.size_toArray, List.getElem?_toArray, List.getElem?_cons_zero, List.getElem?_cons_succ] at k2
            rw [HLL.out] at k2
            clear hfin hdec
            go_wp2_with fail
            have E := HQA.out.r.end
            have HDE := HDEC.out
            unfold finQ at HDE
            generalize hfe : RdD.fin x = fe at E HDE
            have HDF := Lib.hid HDE
            clear hfe HDE
            go_wp2_with fail
            refine E.mono ?_
            rintro e wE ⟨ev, rfl, hev, uE⟩
            have HAE := Lib.hid (HQA.out.ext uE)
            clear E uE
            cases fe with
            | none =>
              obtain rfl : ev = .nilIface := hev
              have HLD := Lib.hid (fun (j : Nat) (u : Value) (hu : (qCells q (.slice none 0 0))[j]? = some u) => show World.cell? wE ⟨bq, 0 + j, none⟩ = some u from by rw [cell_of_blk HAE.out.a]; simpa using hu)
              have HFE := Lib.hid (HAE.out.fin_ok HLV.out)
              have HZE := Lib.hid HAE.out.z
              have hzF := Lib.hid (blk_setRow HAE.out.z (qCells q (.slice none 0 0)).toArray)
              have eDD := HDF.out
              rw [if_pos rfl] at eDD
              have HDF2 := Lib.hid eDD
              clear eDD HDF HAE
              go_wp2_with (first
                | (refine wpList_loadAgg rfl 27 _ rfl bq 0 rfl (qCells q (.slice none 0 0)) Tryz.underlying27 rfl qry_size HLD.out ?_)
                | (refine store_whole rfl 27 _ _ rfl w.heap.size rfl (qCells q (.slice none 0 0)) rfl qry_size zeroQry 27 HZE.out rfl (qry_one _ _ rfl) ?_))
              exact bodyPost_ret (v := .tuple #[.agg (qCells q (.slice none 0 0)).toArray, .nilIface]) (resQ _ _ w.heap.size _ _ rfl rfl hzF.out rfl) rfl (by rw [HDF2.out]; exact HFE.out)
            | some ee =>
              have hi := (err_form hev).resolve_left (fun h => by simp at h)
              obtain ⟨⟨ti, yi, rfl⟩, _⟩ := hi
              have HFE := Lib.hid (HAE.out.fin_bad hev)
              have HZE := Lib.hid HAE.out.z
              have hzF := Lib.hid (blk_setRow HAE.out.z zeroQry.toArray)
              have eDD := HDF.out
              rw [if_neg (by simp)] at eDD
              have HDF2 := Lib.hid eDD
              clear eDD HDF HAE hev
              go_wp2_with (refine store_whole rfl 27 _ _ rfl w.heap.size rfl zeroQry rfl qry_size zeroQry 27 HZE.out rfl (qry_one zeroQ _ rfl) ?_)
              exact bodyPost_ret (v := .tuple #[.agg zeroQry.toArray, .iface ti yi]) (resQ _ _ w.heap.size _ _ rfl rfl hzF.out rfl) rfl (by rw [HDF2.out]; exact HFE.out)
end Go.Proofs.YtljnhelnmnomoaaGreatDoor
