/- What DecodeQuery holds when a leaf is appended; the steps that region 24 wants. wire.DecodeQuery: the walk, of any bytes whose kind has leaves. PRINTED by wip/tools/gen_decq2.py. -/
import Derived.Test.YtljnhelnmnomoaaGreatDoorDecQ
import Derived.Test.YtljnhelnmnomoaaGreatDoorTyped
import Derived.Test.YtljnhelnmnomoaaGreatDoorOncePlain
import Derived.Deep.CutRange
namespace Go.Proofs.YtljnhelnmnomoaaGreatDoor
open Go.RowKit Go.Lib


section
variable {P : Program} {ops : Array Oper} {Q : Exit → Act → World → Prop} {a : Act} {w : World} {i : Nat} {o : Oper} {K : Act → World → Prop}
theorem any_normQ {md : Region.Mode} {n : Nat} {listed : Array Bool} {a' : Act} (h : a = a') (hk : wpAny P md ops Q n listed a' w) : wpAny P md ops Q n listed a w := h ▸ hk
theorem op_assignQ (hi : ops[i]? = some o) (hw : Region.wanted o (yielded ops a.tmps) = true) {x : Operand} (ho : o.op = .assign x) (v : Value) (hv : a.eval x = v) (h : K (a.put o.dst v) w) : wpOp P ops Q i K a w := by
  subst hv
  exact op_val hi hw (by simp [execOp, ho]) h
theorem op_build1Q (hi : ops[i]? = some o) (hw : Region.wanted o (yielded ops a.tmps) = true) (t e : TypeId) (y : Operand) (ho : o.op = .buildSlice t 1 #[(0, y)]) (v : Value) (hy : a.eval y = v) (hu : P.underlying t = some (.slice e))
    (ie : TypeInfo) (z : Value) (hie : P.info? e = some ie) (hz : ie.zero = some z) (hs : ie.size = 1) (hv : v.cells = #[v]) (h : K (a.put o.dst (.slice (some ⟨w.heap.size, 0, none⟩) 1 1)) (w.alloc (.cells #[v] e))) : wpOp P ops Q i K a w := by
  refine op_val hi hw ?_ h
  have hr := run_buildSlice (P := P) w t e 1 #[(0, v)] #[v] ie z hu hie hz (by rw [hs]; omega) (by rw [hs]; omega) (by
    simp only [Instr.fill, hs, Nat.zero_mul, Nat.one_mul, hv]
    rw [if_neg (by simp)]
    have := fold_all [v] ((Array.range 1).map (z.cells[· % z.cells.size]!)) (by simp)
    simpa using this)
  simp only [execOp, ho, List.map_toArray, List.map_cons, List.map_nil, hy, Sem.run_bind, hr, Result.andThen_ok]
  rfl
theorem op_store1 (hi : ops[i]? = some o) (hw : Region.wanted o (yielded ops a.tmps) = true) (ty : TypeId) (x y : Operand) (ho : o.op = .store ty x y)
    (p : Addr) (hx : a.eval x = .pointer (some p)) (v : Value) (hy : a.eval y = v) (hcs : v.cells = #[v]) (h1 : v.oneCell' = true) (hs : (P.info? ty).map (·.size) = some 1)
    (c : Value) (hc : w.cell? p = some c) (hf : w.frozen? p = false) (h : K (a.put o.dst undef) (w.setCell p v)) : wpOp P ops Q i K a w := by
  unfold wpOp
  simp only [hi]
  rw [if_pos hw]
  left
  cases hq : P.info? ty with
  | none => simp [hq] at hs
  | some it =>
    have hss : it.size = 1 := by simpa [hq] using hs
    have h0 : p.add 0 = p := by cases p; unfold Addr.add; split <;> simp_all
    have hst : (storeCells p [v] 0).run P w = .ok () (w.setCell p v) := by
      simp only [storeCells, Sem.run_bind, h0]
      rw [run_store P w p v .plain h1, hc]
      simp [hf]
    unfold Oper.wp execOp
    simp [ho, hx, hy, Instr.storeAt, Instr.sureAddr, storeVar, sizeOf, typeInfo, hq, hss, hcs, hst]
    exact h
theorem op_app1 (hgi : ops[i]? = some o) (hw : Region.wanted o (yielded ops a.tmps) = true) (s x : Operand) (t : TypeId)
    (ho : o.op = .call { callee := .builtin .append, args := #[s, x], argTypes := #[t, t] })
    (base : Nat) (e : TypeId) (it : TypeInfo) (z : Value) (size bytes : Nat) (ht : P.underlying t = some (.slice e)) (hi : P.info? e = some it) (hz : it.zero = some z)
    (hsize : it.size = size) (hby : it.bytes = bytes) (hzs : z.cells.size = size) (hsz : 0 < size)
    (v : Value) (n : Nat) (xs : List Value) (hs : a.eval s = v) (hown : w.ownsRow base e size v n xs)
    (ad : Addr) (m c : Nat) (news : List Value) (hx : a.eval x = .slice (some ad) m c) (hl : news.length = m * size) (hnews : ∀ j u, news[j]? = some u → w.cell? (ad.add j) = some u) (h1 : ∀ u ∈ news, u.oneCell' = true)
    (h63 : n + m ≤ maxLen) (hbytes : (n + m) * bytes ≤ 140737488355328) (hbase : base ≤ w.heap.size)
    (h : ∀ v' w', w'.ownsRow base e size v' (n + m) (xs ++ news) → w.grownBy w' v.ownBlock → (v'.ownBlock = v.ownBlock ∨ v'.ownBlock = some w.heap.size) → K (a.put o.dst v') w') : wpOp P ops Q i K a w := by
  obtain ⟨v', w', hr, h2, h3, _⟩ := run_append_own (P := P) w base t o.type e it z size bytes ht hi hz hsize hby hzs hsz v n xs hown ad m c news hl hnews h1 h63 hbytes hbase
  subst hsize
  subst hby
  have h4 := append_block w base t o.type e it z ht hi hz v n xs hown ad m c news hl hnews h1 h63 hbytes v' w' hr
  refine op_val hgi hw ?_ (h v' w' h2 h3 h4)
  unfold execOp
  simp only [ho, resolve, invoke, builtin, Sem.run_bind, Sem.run_pure, Result.andThen_ok, List.map_toArray, List.map_cons, List.map_nil, hs, hx, hr]
end
section
variable {n : Nat} {se : Nat → Addr} {w w1 w2 : World} {D : Nat → Prop} {rb : Nat} {x y : RdD} {bq r0 ba : Nat} {q : QryD} {v : Value} {ak : Array Value}
/-- A text is appended, the slice laid into the query. -/
theorem QAt.app (h : QAt n se w w1 D rb x bq r0 ba q v ak) (t : ByteArray) {v' : Value} (ho : w2.ownsRow (ba + 1) 9 1 v' (q.leaves.length + 1) (textCells q.leaves ++ [.string t])) (hg : w1.grownBy w2 v.ownBlock) (hbl : v'.ownBlock = v.ownBlock ∨ v'.ownBlock = some w1.heap.size) :
    QAt n se w (w2.setCell ⟨bq, 7, none⟩ v') (plus D w1.heap.size w2.heap.size) rb x bq r0 ba { q with leaves := q.leaves ++ [t] } v' ak := by
  have U : Upd D w1 w2 := (Upd.refl D w1).grown hg (fun k hk => .inr (h.dv k hk))
  have R := h.r.grow U
  have hvg : ∀ g, v.ownBlock = some g → ba + 1 ≤ g := fun g hg => (h.row.lt g hg).1
  have hlt1 := h.lt
  have hlt2 := h.lt2
  have U2 : Upd (fun k => v.ownBlock = some k) w1 w2 := (Upd.refl _ w1).grown hg (fun k hk => .inr hk)
  have ha2 := U2.blk h.a (fun e => by have := hvg _ e; omega)
  have hz2 := U2.blk h.z (fun e => by have := hvg _ e; omega)
  have hk2 := U2.blk h.k (fun e => by have := hvg _ e; omega)
  have U3 : Upd (one bq) w2 (w2.setCell ⟨bq, 7, none⟩ v') := (Upd.refl (one bq) w2).setCell (p := ⟨bq, 7, none⟩) (.inr rfl) _
  have U4 : Upd (plus D w1.heap.size w2.heap.size) w2 (w2.setCell ⟨bq, 7, none⟩ v') := U3.mono (fun k _ hk => by cases hk; exact .inl h.dq)
  have ha3 := blk_set ha2 7 v'
  refine ⟨R.turn U4, ha3, blk_set_ne hz2 (by show r0 ≠ bq; omega) _, blk_set_ne hk2 (by show ba ≠ bq; omega) _, .inl h.dq, .inl h.d0, .inl h.da, hlt1, hlt2, ?_, fun g hk => ?_⟩
  · have e : textCells (q.leaves ++ [t]) = textCells q.leaves ++ [.string t] := by simp [textCells]
    show World.ownsRow _ _ _ _ _ (q.leaves ++ [t]).length (textCells (q.leaves ++ [t]))
    rw [e, List.length_append]
    exact ownsRow_upd ho U3 (fun g hk e => by cases e; have := (ho.lt _ hk).1; omega)
  · rcases hbl with e | e
    · exact .inl (h.dv g (by rw [← e]; exact hk))
    · have hlt := (ho.lt g hk).2
      rw [e] at hk
      cases hk
      exact .inr ⟨Nat.le_refl _, hlt⟩
theorem QAt.after (h : QAt n se w w1 D rb x bq r0 ba q v ak) (hg : w1.grownBy w2 v.ownBlock) : w2.heap[bq]? = some (.cells (qCells q v).toArray 27 (0, 0)) := by
  have U2 : Upd (fun k => v.ownBlock = some k) w1 w2 := (Upd.refl _ w1).grown hg (fun k hk => .inr hk)
  exact U2.blk h.a (fun e => by have := (h.row.lt _ e).1; have := h.lt2; omega)
end
theorem decTexts_more {m : Nat} {x0 x : RdD} {ls : List ByteArray} (h : decTexts m x0 = (ls ++ (decTexts (m - ls.length) x).1, (decTexts (m - ls.length) x).2)) (hlt : ls.length < m) :
    decTexts m x0 = ((ls ++ [str (x.text 65536).1]) ++ (decTexts (m - (ls ++ [str (x.text 65536).1]).length) (x.text 65536).2).1, (decTexts (m - (ls ++ [str (x.text 65536).1]).length) (x.text 65536).2).2) := by
  have e : m - ls.length = (m - (ls.length + 1)) + 1 := by omega
  have e2 : (ls ++ [str (x.text 65536).1]).length = ls.length + 1 := by simp
  rw [h, e, e2]
  simp [decTexts]
theorem decTexts_end {m : Nat} {x0 x : RdD} {ls : List ByteArray} (h : decTexts m x0 = (ls ++ (decTexts (m - ls.length) x).1, (decTexts (m - ls.length) x).2)) (hlt : ls.length = m) : decTexts m x0 = (ls, x) := by
  rw [h, hlt, Nat.sub_self]; simp [decTexts]
theorem info_string : (Tryz.prog.info? 9).map (fun i => (i.zero, i.size, i.bytes)) = some (some (.string ⟨#[]⟩), 1, 16) := by kernel_rfl
theorem own_cells {w : World} {B e size n : Nat} {v : Value} {xs : List Value} (h : w.ownsRow B e size v n xs) : v.cells = #[v] := by
  rcases h.2 with ⟨rfl, _⟩ | ⟨g, cap, cur, rfl, _⟩ <;> rfl
theorem size_strs : (Tryz.prog.info? 25).map (·.size) = some 1 := by kernel_rfl
theorem body_text : hasBody Tryz.prog 53 = true := by kernel_rfl
def leafQ (r : QryD × RdD) : QryD × EV := if 4096 < r.2.var.1 then (zeroQ, some (4, none)) else finQ { r.1 with leaves := (decTexts r.2.var.1 r.2.var.2).1 } (decTexts r.2.var.1 r.2.var.2).2

set_option maxRecDepth 8000 in
set_option maxHeartbeats 8000000 in
theorem decQ_leaves {B : Nat} {se : Nat → Addr} {w : World} (G : Genv B se w) (A : Asks B w) (s : ByteArray) (hs : s.size ≤ 1048576) (c : UInt8) (l : List UInt8) (h : s.data.toList = c :: l) (hL : askL c.toNat = true) :
    Calls Tryz.prog 15 #[.string s] w (DecQPostO se w (decQ s)) := by
  have d0 : ¬ (1048576 : Int) < s.size := by omega
  have hfx := fixed_one s c l h
  have he : s.toList.isEmpty = false := (empty_no s).2 (fun e => by subst e; simp at h)
  have hc8 : c.toNat < 256 := c.toNat_lt
  have hd0 : decQ s = if okQ c.toNat = false then (zeroQ, some (3, some 0)) else
    match l with
    | [] => (zeroQ, some (3, some 1))
    | e :: _ => if goesB c.toNat e.toNat = false then (zeroQ, some (3, some 1)) else
      leafQ (decNums (askN c.toNat) ⟨c.toNat, e.toNat, 0, 0, 0, 0, 0, []⟩ ⟨s, 2, none⟩) := by
    unfold decQ
    rw [if_neg (by omega), h]
    simp only [hL]
    rfl
  obtain ⟨g1, e1, d1⟩ := decQ_start G
  have N := RdS.new g1 e1 (Nat.le_refl _) d1 s (by omega)
  rw [World.size_alloc] at N
  have HB := Lib.hid (blk_alloc w (.cells zeroQry.toArray 27))
  have HD0 := Lib.hid hd0
  have HLL := Lib.hid hL
  have HH := Lib.hid h
  have HASK := Lib.hid A
  simp only [zeroQry] at N
  clear G h g1 e1 d1 hd0 hL A hs
  generalize hcn : c.toNat = cn at *
  go_enter Tryz.func15, Tryz.ntmps15
  go_wp2_with fail
  refine N.mono ?_
  rintro e w1 ⟨rfl, R, u⟩
  have hz := Ext.blk u HB.out
  have C := R.fixed 1
  rw [hfx] at C
  have HZ := Lib.hid hz
  have HNB := Lib.hid R.nb
  clear N R u hz
  go_wp2_with fail
  refine C.mono ?_
  rintro e w2 ⟨rfl, R, u⟩
  have hz := u.blk HZ.out (fun e => HNB.out e.symm)
  have X := (Upd.refl none' w2).alloc (.cells (qCells ⟨cn, 0, 0, 0, 0, 0, 0, []⟩ (.slice none 0 0)).toArray 27)
  have CO := of_any (HASK.out.ext (R.e.trans X)) cn hc8
  have HR := Lib.hid R
  have HZ2 := Lib.hid hz
  have HX := Lib.hid X
  simp only [qCells] at CO
  clear C R u hz HNB X
  go_wp2_with fail
  refine CO.mono ?_
  rintro e w3 ⟨a, cap, rfl, hi, u⟩
  obtain ⟨D, hqa⟩ := QAt.start HR.out HZ2.out ⟨cn, 0, 0, 0, 0, 0, 0, []⟩ rfl u #[.bool (askE cn), .slice a (askN cn).length cap, .bool (askL cn)]
  have HQ0 := Lib.hid hqa
  have HI := Lib.hid (hi.back HASK.out.size (HR.out.e.trans (HX.out.trans u)))
  have hlt2 := hqa.lt2
  have HL2 := Lib.hid hlt2
  clear hi u hqa HR HZ2 HX CO hlt2
  generalize w2.heap.size = bq at HQ0 HL2 ⊢
  have okc : okQ cn = false ∨ okQ cn = true := by cases okQ cn <;> simp
  rcases okc with hok | hok
  · rw [hok]
    have hres := HD0.out
    rw [if_pos hok] at hres
    have HRES := Lib.hid hres
    have HGW := Lib.hid HQ0.out.r.g
    have HEW := Lib.hid HQ0.out.r.e
    have HZW := Lib.hid HQ0.out.z
    clear hres hok
    have CW := wrong_any HGW.out 0
    go_wp2_with fail
    refine CW.mono ?_
    rintro e wx ⟨v, rfl, hv, ux⟩
    have HZX := Lib.hid (Ext.blk ux HZW.out)
    have HPX : Hid (DecQPostO se w (decQ s) (.returned (.tuple #[.agg zeroQry.toArray, v])) (wx.setRow w.heap.size zeroQry.toArray)) := Lib.hid (by rw [HRES.out]; exact refuseQ HZX.out (HEW.out.trans ux) hv)
    have hzF := Lib.hid (blk_setRow HZX.out zeroQry.toArray)
    clear hv ux CW
    go_wp2_with (refine store_whole rfl 27 _ _ rfl w.heap.size rfl zeroQry rfl qry_size zeroQry 27 HZX.out rfl (qry_one zeroQ _ rfl) ?_)
    exact bodyPost_ret (v := .tuple #[.agg zeroQry.toArray, v]) (resQ _ _ w.heap.size _ _ rfl rfl hzF.out rfl) rfl HPX.out
  · rw [hok]
    have hd1 := HD0.out
    rw [if_neg (by rw [hok]; simp)] at hd1
    have HD1 := Lib.hid hd1
    clear hd1 hok
    go_wp2_with fail
    generalize hba : w3.heap.size = ba at HQ0 HL2 ⊢
    generalize hwq : w3.alloc (.cells #[.bool (askE cn), .slice a (askN cn).length cap, .bool (askL cn)] 83) = wq at HQ0 ⊢
    clear hba hwq
    cases l with
    | nil =>
      have HRES := Lib.hid HD1.out
      have hs1 : s.size = 1 := by
        have e1 : s.data.toList.length = s.size := by rw [Array.length_toList]; rfl
        rw [HH.out] at e1; simpa using e1.symm
      have HS1 := Lib.hid hs1
      refine region_inv (Ext wq) (by kernel_rfl) (by kernel_rfl) ((Upd.refl none' wq).drew) ?_
      refine inv_move rfl rfl (.string s) rfl ?_
      refine inv_norm (by go_simp; all_goals exact rfl) ?_
      refine inv_pure (v := .int .i64 s.size) rfl (fun w => by go_simp; all_goals rfl) ?_
      refine inv_norm (by go_simp; all_goals exact rfl) ?_
      refine inv_pure (v := .bool true) rfl (fun w => by simp [execOp, Act.eval, Act.put, hs1]; all_goals rfl) ?_
      refine inv_norm (by go_simp; all_goals exact rfl) ?_
      refine inv_move rfl rfl (.bool true) rfl ?_
      refine inv_norm (by go_simp; all_goals exact rfl) ?_
      refine inv_skip rfl ?_
      refine inv_norm (by go_simp; all_goals exact rfl) ?_
      refine inv_skip rfl ?_
      refine inv_norm (by go_simp; all_goals exact rfl) ?_
      refine inv_skip rfl ?_
      refine inv_norm (by go_simp; all_goals exact rfl) ?_
      refine inv_skip rfl ?_
      refine inv_norm (by go_simp; all_goals exact rfl) ?_
      refine inv_skip rfl ?_
      refine inv_norm (by go_simp; all_goals exact rfl) ?_
      refine inv_pick rfl rfl true (.bool true) rfl rfl ?_
      refine inv_norm (by go_simp; all_goals exact rfl) ?_
      intro w7 h7
      have HQ7 := Lib.hid (HQ0.out.ext h7)
      have HGW := Lib.hid HQ7.out.r.g
      have HEW := Lib.hid HQ7.out.r.e
      have HZW := Lib.hid HQ7.out.z
      clear h7 hs1
      have CW := wrong_any HGW.out 1
      go_wp2_with fail
      refine CW.mono ?_
      rintro e wx ⟨v, rfl, hv, ux⟩
      have HZX := Lib.hid (Ext.blk ux HZW.out)
      have HPX : Hid (DecQPostO se w (decQ s) (.returned (.tuple #[.agg zeroQry.toArray, v])) (wx.setRow w.heap.size zeroQry.toArray)) := Lib.hid (by rw [HRES.out]; exact refuseQ HZX.out (HEW.out.trans ux) hv)
      have hzF := Lib.hid (blk_setRow HZX.out zeroQry.toArray)
      clear hv ux CW
      go_wp2_with (refine store_whole rfl 27 _ _ rfl w.heap.size rfl zeroQry rfl qry_size zeroQry 27 HZX.out rfl (qry_one zeroQ _ rfl) ?_)
      exact bodyPost_ret (v := .tuple #[.agg zeroQry.toArray, v]) (resQ _ _ w.heap.size _ _ rfl rfl hzF.out rfl) rfl HPX.out
    | cons d l =>
      have hsz2 : 2 ≤ s.size := by
        have e1 : s.data.toList.length = s.size := by rw [Array.length_toList]; rfl
        rw [HH.out] at e1; simp at e1; omega
      have hs1 : ((s.size : Int) == 1) = false := by simp; omega
      have hix := idx_str1 s c d l HH.out
      have hfx2 := fixed_two s c d l HH.out
      have hd8 : d.toNat < 256 := d.toNat_lt
      have hd2 : decQ s = if goesB cn d.toNat = false then (zeroQ, some (3, some 1)) else leafQ (decNums (askN cn) ⟨cn, d.toNat, 0, 0, 0, 0, 0, []⟩ ⟨s, 2, none⟩) := HD1.out
      have HIQ := Lib.hid (fun (w7 : World) (h7 : Ext wq w7) (j : Nat) (u : Value) (hu : ([.bool (askE cn), .slice a (askN cn).length cap, .bool (askL cn)] : List Value)[j]? = some u) => show w7.cell? ⟨ba, 0 + j, none⟩ = some u from by rw [cell_of_blk (Ext.blk h7 HQ0.out.k)]; simpa using hu)
      generalize hdn : d.toNat = dn at *
      have HGO := Lib.hid (fun (w7 : World) (h7 : Ext wq w7) => (goes_any cn dn hd8 a (askN cn).length cap w7).mono (R' := fun e w8 => e = .returned (.bool (goesB cn dn)) ∧ Ext wq w8) (by rintro e w8 ⟨rfl, u⟩; exact ⟨rfl, h7.trans u⟩))
      have HD2 := Lib.hid hd2
      clear hd2
      refine region_inv (Ext wq) (by kernel_rfl) (by kernel_rfl) ((Upd.refl none' wq).drew) ?_
      refine inv_move rfl rfl (.string s) rfl ?_
      refine inv_norm (by go_simp; all_goals exact rfl) ?_
      refine inv_pure (v := .int .i64 s.size) rfl (fun w => by go_simp; all_goals rfl) ?_
      refine inv_norm (by go_simp; all_goals exact rfl) ?_
      refine inv_eqlInt rfl rfl s.size 1 false hs1 rfl rfl ?_
      refine inv_norm (by go_simp; all_goals exact rfl) ?_
      refine inv_move rfl rfl (.bool false) rfl ?_
      refine inv_norm (by go_simp; all_goals exact rfl) ?_
      refine inv_loadAgg rfl 83 _ rfl ba 0 rfl [.bool (askE cn), .slice a (askN cn).length cap, .bool (askL cn)] Tryz.underlying83 rfl ask_size HIQ.out ?_
      refine inv_norm (by go_simp; all_goals exact rfl) ?_
      refine inv_move rfl rfl (.string s) rfl ?_
      refine inv_norm (by go_simp; all_goals exact rfl) ?_
      refine inv_pure (v := .int .u8 dn) rfl (fun w => by simp [execOp, Act.eval, Act.put, hix]; all_goals rfl) ?_
      refine inv_norm (by go_simp; all_goals exact rfl) ?_
      refine inv_call (v := .bool (goesB cn dn)) rfl 51 [.tmp 41, .tmp 43] _ rfl body_goes [.agg #[.bool (askE cn), .slice a (askN cn).length cap, .bool (askL cn)], .int .u8 dn] rfl HGO.out ?_
      refine inv_norm (by go_simp; all_goals exact rfl) ?_
      refine inv_not rfl rfl (goesB cn dn) rfl ?_
      refine inv_norm (by go_simp; all_goals exact rfl) ?_
      refine inv_pick rfl rfl false (.bool !goesB cn dn) rfl rfl ?_
      refine inv_norm (by go_simp; all_goals exact rfl) ?_
      intro w7 h7
      have HQ7 := Lib.hid (HQ0.out.ext h7)
      clear h7 hs1 hix HIQ HGO HQ0
      have gcc : goesB cn dn = false ∨ goesB cn dn = true := by cases goesB cn dn <;> simp
      rcases gcc with hg | hg
      · rw [hg]
        have hres := HD2.out
        rw [if_pos hg] at hres
        have HRES := Lib.hid hres
        have HGW := Lib.hid HQ7.out.r.g
        have HEW := Lib.hid HQ7.out.r.e
        have HZW := Lib.hid HQ7.out.z
        clear hres hg
        have CW := wrong_any HGW.out 1
        go_wp2_with fail
        refine CW.mono ?_
        rintro e wx ⟨v, rfl, hv, ux⟩
        have HZX := Lib.hid (Ext.blk ux HZW.out)
        have HPX : Hid (DecQPostO se w (decQ s) (.returned (.tuple #[.agg zeroQry.toArray, v])) (wx.setRow w.heap.size zeroQry.toArray)) := Lib.hid (by rw [HRES.out]; exact refuseQ HZX.out (HEW.out.trans ux) hv)
        have hzF := Lib.hid (blk_setRow HZX.out zeroQry.toArray)
        clear hv ux CW
        go_wp2_with (refine store_whole rfl 27 _ _ rfl w.heap.size rfl zeroQry rfl qry_size zeroQry 27 HZX.out rfl (qry_one zeroQ _ rfl) ?_)
        exact bodyPost_ret (v := .tuple #[.agg zeroQry.toArray, v]) (resQ _ _ w.heap.size _ _ rfl rfl hzF.out rfl) rfl HPX.out
      · rw [hg]
        have hd3 := HD2.out
        rw [if_neg (by rw [hg]; simp)] at hd3
        have HD3 := Lib.hid hd3
        have C := HQ7.out.r.fixed 1
        rw [hfx2] at C
        clear hd3 hg
        go_wp2_with fail
        refine C.mono ?_
        rintro e w8 ⟨rfl, R, u⟩
        have HQ8 := HQ7.out.rd R u
        have c1 := cell_of_blk HQ8.a 1
        simp only [qCells, List.size_toArray, List.getElem?_toArray, List.getElem?_cons_zero, List.getElem?_cons_succ] at c1
        have f1 := free_of_blk HQ8.a 1
        have HQ9 := Lib.hid (HQ8.set 1 (.int .u8 dn) ⟨cn, dn, 0, 0, 0, 0, 0, []⟩ rfl rfl)
        have hk9 := HQ9.out.k
        have k1 := cell_of_blk hk9 1
        simp only [List.size_toArray, List.getElem?_toArray, List.getElem?_cons_zero, List.getElem?_cons_succ] at k1
        clear HQ8 R u C hk9
        go_wp2_with fail
        clear k1
        generalize w8.setCell ⟨bq, 1, none⟩ (.int .u8 dn) = w9 at HQ9 ⊢
        go_loopw [56] (fun iv wr => ∃ (j : Nat) (q : QryD) (x : RdD), iv = .int .i64 j ∧ j ≤ (askN cn).length ∧ QAt w.heap.size se w wr D (w.heap.size + 1) x bq w.heap.size ba q (.slice none 0 0) #[.bool (askE cn), .slice a (askN cn).length cap, .bool (askL cn)] ∧ q.leaves = [] ∧ decNums (askN cn) ⟨cn, dn, 0, 0, 0, 0, 0, []⟩ ⟨s, 2, none⟩ = decNums ((askN cn).drop j) q x) (fun iv _ => (askN cn).length - (RowKit.intOf iv).toNat)
        case atStart => exact ⟨0, _, _, rfl, Nat.zero_le _, HQ9.out, rfl, by rw [List.drop_zero]⟩
        case round =>
          obtain ⟨j, q, x, rfl, hj, hqa, hlv, hdn2⟩ := hrel
          have HQA := Lib.hid hqa
          have HLV0 := Lib.hid hlv
          have HDN := Lib.hid hdn2
          clear hqa hlv hdn2 HQ9
          by_cases hlt : j < (askN cn).length
          · have hg := List.getElem?_eq_getElem hlt
            obtain ⟨b, o, rfl, hbB, hc⟩ := HI.out j _ hg
            have hc2 := Ext.cellv HQA.out.r.e hc
            have hi5 := askN_mem cn _ (List.getElem_mem hlt)
            have HDD := Lib.hid (decNums_drop (askN cn) j _ hg q x)
            have hlti : (j : Int) < (askN cn).length := by omega
            have hlen3 := askN_small cn
            generalize (askN cn)[j] = i at *
            have CN := number_any bq i hi5 wr
            have CV := HQA.out.r.var
            have HRC := Lib.hid (fun (v : Value) (m : Nat) => set_num q v i m hi5)
            have HNC := Lib.hid (num_cell q (.slice none 0 0) i hi5)
            have HM64 := Lib.hid (var_lt x)
            clear hg hc hbB
            generalize hxv : x.var.1 = m at *
            generalize hxr : x.var.2 = x2 at *
            go_wp2_with fail
            refine CN.mono ?_
            rintro e w10 ⟨rfl, rfl⟩
            go_wp2_with fail
            refine CV.mono ?_
            rintro e w10 ⟨rfl, R, u⟩
            have hq10 := HQA.out.rd R u
            have ci := cell_of_blk hq10.a (i + 2)
            rw [List.getElem?_toArray, HNC.out] at ci
            have fi := free_of_blk hq10.a (i + 2)
            have HQB := Lib.hid (hq10.set (i + 2) (.int .u64 m) (setQ q i m) (HRC.out (.slice none 0 0) m).2 (HRC.out (.slice none 0 0) m).1)
            clear hq10 R u CN CV hxv hxr
            go_wp2_with fail
            exact ⟨⟨j + 1, _, _, by simp, by omega, HQB.out, by rw [(HRC.out (.slice none 0 0) m).2]; exact HLV0.out, by rw [HDN.out, HDD.out]⟩, by simp [RowKit.intOf]; omega⟩
          · obtain rfl : j = (askN cn).length := by omega
            have hfin := HDN.out
            rw [List.drop_length] at hfin
            have hdec := HD3.out
            rw [hfin] at hdec
            have HDEC : Hid (decQ s = leafQ (q, x)) := Lib.hid hdec
            have k2 := cell_of_blk HQA.out.k 2
            simp only [List.size_toArray, List.getElem?_toArray, List.getElem?_cons_zero, List.getElem?_cons_succ] at k2
            rw [HLL.out] at k2
            have CV := HQA.out.r.var
            have HM64 := Lib.hid (var_lt x)
            clear hfin hdec HDN
            generalize hxv : x.var.1 = m at *
            generalize hxr : x.var.2 = x0 at *
            go_wp2_with fail
            refine CV.mono ?_
            rintro e w10 ⟨rfl, R, u⟩
            have HQ10 := Lib.hid (HQA.out.rd R u)
            clear R u CV k2
            by_cases hbig : 4096 < m
            · have dm : (4096 : Int) < m := by omega
              have HRES : Hid (decQ s = (zeroQ, some (4, none))) := Lib.hid (by rw [HDEC.out]; unfold leafQ; simp only [hxv]; rw [if_pos hbig])
              have cg := HQ10.out.r.g.cell 4 (by omega) (by omega)
              clear hbig hxv hxr
              go_upto_region 21 with fail
              refine wp_region_any (by kernel_rfl) ?_
              change wpAny _ _ _ _ _ _ _ (World.drew _)
              have HQ11 := Lib.hid (HQ10.out.ext ((Upd.refl none' _).drew))
              have CG := Lib.hid (show (w10.drew).cell? ⟨1, 0, none⟩ = some (sv se 4) from cg)
              have HZQ := Lib.hid HQ11.out.z
              have hgs := HQ11.out.r.g.below (((Upd.refl (one w.heap.size) w10.drew).setRow (.inr rfl) zeroQry.toArray).below HQ11.out.r.g.size (fun k hk => by cases hk; exact Nat.le_refl _))
              have CGS := Lib.hid (show ((w10.drew).setRow w.heap.size zeroQry.toArray).cell? ⟨1, 0, none⟩ = some (sv se 4) from hgs.cell 4 (by omega) (by omega))
              have hzF := Lib.hid (blk_setRow HQ11.out.z zeroQry.toArray)
              have HPX : Hid (DecQPostO se w (decQ s) (.returned (.tuple #[.agg zeroQry.toArray, sv se 4])) ((w10.drew).setRow w.heap.size zeroQry.toArray)) := Lib.hid (by rw [HRES.out]; exact HQ11.out.fin_bad ⟨by omega, by omega, rfl⟩)
              clear cg hgs
              (refine wpAny_take (i := 0) (v := ?_) rfl (by kernel_rfl) (by kernel_rfl) (by kernel_rfl) (fun _ _ _ h => h) (Or.inl ⟨by rfl, ?_⟩) ?_; rotate_left; (· (intro w; go_simp; all_goals (with_reducible rfl))); refine any_normQ (by go_simp; all_goals exact rfl) ?_)
              refine any2 1 2 (by kernel_rfl) ?_ ?_
              · refine op_load1 rfl (by rfl) rfl ⟨1, 0, none⟩ (sv se 4) rfl Tryz.underlying32 rfl CG.out ?_
                refine any_normQ (by go_simp; all_goals exact rfl) ?_
                refine any1 2 (by kernel_rfl) ?_
                refine op_storeAgg rfl (by rfl) 27 _ _ rfl w.heap.size rfl zeroQry rfl qry_size zeroQry 27 HZQ.out rfl (qry_one zeroQ _ rfl) ?_
                refine any_normQ (by go_simp; all_goals exact rfl) ?_
                refine any1 3 (by kernel_rfl) ?_
                refine op_assignQ rfl (by rfl) rfl (sv se 4) rfl ?_
                refine any_normQ (by go_simp; all_goals exact rfl) ?_
                refine wpAny_done (by kernel_rfl) ?_ _
                go_wp2_with fail
                exact bodyPost_ret (v := .tuple #[.agg zeroQry.toArray, sv se 4]) (resQ _ _ w.heap.size zeroQry.toArray _ rfl rfl hzF.out rfl) rfl HPX.out
              · refine op_storeAgg rfl (by rfl) 27 _ _ rfl w.heap.size rfl zeroQry rfl qry_size zeroQry 27 HZQ.out rfl (qry_one zeroQ _ rfl) ?_
                refine any_normQ (by go_simp; all_goals exact rfl) ?_
                refine any1 1 (by kernel_rfl) ?_
                refine op_load1 rfl (by rfl) rfl ⟨1, 0, none⟩ (sv se 4) rfl Tryz.underlying32 rfl CGS.out ?_
                refine any_normQ (by go_simp; all_goals exact rfl) ?_
                refine any1 3 (by kernel_rfl) ?_
                refine op_assignQ rfl (by rfl) rfl (sv se 4) rfl ?_
                refine any_normQ (by go_simp; all_goals exact rfl) ?_
                refine wpAny_done (by kernel_rfl) ?_ _
                go_wp2_with fail
                exact bodyPost_ret (v := .tuple #[.agg zeroQry.toArray, sv se 4]) (resQ _ _ w.heap.size zeroQry.toArray _ rfl rfl hzF.out rfl) rfl HPX.out
            · have dm : ¬ (4096 : Int) < m := by omega
              have HRES : Hid (decQ s = finQ { q with leaves := (decTexts m x0).1 } (decTexts m x0).2) := Lib.hid (by rw [HDEC.out]; unfold leafQ; simp only [hxv, hxr]; rw [if_neg hbig])
              have HMB := Lib.hid (show m ≤ 4096 by omega)
              clear hbig hxv hxr
              go_wp2_with fail
              go_loopw [76] (fun iv wr => ∃ (j : Nat) (D : Nat → Prop) (ls : List ByteArray) (x : RdD) (v : Value), iv = .int .i64 j ∧ j ≤ m ∧ QAt w.heap.size se w wr D (w.heap.size + 1) x bq w.heap.size ba { q with leaves := ls } v #[.bool (askE cn), .slice a (askN cn).length cap, .bool (askL cn)] ∧ ls.length = j ∧ decTexts m x0 = (ls ++ (decTexts (m - ls.length) x).1, (decTexts (m - ls.length) x).2) ∧ ∀ t ∈ ls, t.size ≤ 9223372036854775807) (fun iv _ => m - (RowKit.intOf iv).toNat)
              case atStart => exact ⟨0, D, [], x0, .slice none 0 0, rfl, Nat.zero_le _, by rw [← HLV0.out]; exact HQ10.out, rfl, by simp, fun t ht => by simp at ht⟩
              case round =>
                obtain ⟨j, D, ls, x, vl, rfl, hj, hqa, hlj, hmo, hlen⟩ := hrel
                rename World => wr
                have HQ := Lib.hid hqa
                have HLJ := Lib.hid hlj
                have HMOO := Lib.hid hmo
                have HLEN := Lib.hid hlen
                clear hqa hlj hmo hlen HQ10 HQA
                by_cases hlt : j < m
                · have hlti : (j : Int) < m := by omega
                  obtain ⟨i0, hi0, hz0, hz1, hz2⟩ := info_parts info_string
                  obtain ⟨tt, htt⟩ : ∃ tt, str (x.text 65536).1 = tt := ⟨_, rfl⟩
                  obtain ⟨xt, hxt⟩ : ∃ xt, (x.text 65536).2 = xt := ⟨_, rfl⟩
                  have HTT := Lib.hid (And.intro htt hxt)
                  have HTL := Lib.hid (show tt.size ≤ 9223372036854775807 by rw [← htt, str_size]; exact Nat.le_trans (text_len x _) HQ.out.r.size)
                  have hmo2 := decTexts_more HMOO.out (by rw [HLJ.out]; exact hlt)
                  rw [htt, hxt] at hmo2
                  have HMO := Lib.hid hmo2
                  have H1 : Hid (∀ u ∈ ([.string tt] : List Value), u.oneCell' = true) := Lib.hid (fun u hu => by rw [List.mem_singleton.1 hu]; rfl)
                  have HM := Lib.hid (show ls.length + 1 ≤ maxLen ∧ (ls.length + 1) * 16 ≤ 140737488355328 by have := HLJ.out; have := HMB.out; unfold maxLen; omega)
                  clear hmo2 htt hxt HMOO hlt
                  go_upto_region 24 with fail
                  refine wp_region_any (by kernel_rfl) ?_
                  change wpAny _ _ _ _ _ _ _ (World.drew _)
                  replace HQ := Lib.hid (HQ.out.ext ((Upd.refl none' _).drew))
                  (refine wpAny_take (i := 0) (v := ?_) rfl (by kernel_rfl) (by kernel_rfl) (by kernel_rfl) (fun _ _ _ h => h) (Or.inl ⟨by rfl, ?_⟩) ?_; rotate_left; (· (intro w; go_simp; all_goals (with_reducible rfl))); refine any_normQ (by go_simp; all_goals exact rfl) ?_)
                  (refine wpAny_take (i := 2) (v := ?_) rfl (by kernel_rfl) (by kernel_rfl) (by kernel_rfl) (fun _ _ _ h => h) (Or.inl ⟨by rfl, ?_⟩) ?_; rotate_left; (· (intro w; go_simp; all_goals (with_reducible rfl))); refine any_normQ (by go_simp; all_goals exact rfl) ?_)
                  refine any2 1 3 (by kernel_rfl) ?_ ?_
                  · have cl := cell_of_blk HQ.out.a 7
                    refine op_load1 rfl (by rfl) rfl ⟨bq, 7, none⟩ vl rfl Tryz.underlying25 rfl (by rw [cl]; rfl) ?_
                    clear cl
                    refine any_normQ (by go_simp; all_goals exact rfl) ?_
                    refine any1 3 (by kernel_rfl) ?_
                    refine op_callf rfl (by rfl) 53 [.tmp 80, .const (.int .i64 65536)] _ rfl body_text [.pointer (some ⟨w.heap.size + 1, 0, none⟩), .int .i64 65536] rfl (R := fun v w' => v = .string tt ∧ QAt w.heap.size se w w' D (w.heap.size + 1) xt bq w.heap.size ba { q with leaves := ls } vl #[.bool (askE cn), .slice a (askN cn).length cap, .bool (askL cn)]) ((HQ.out.r.text 65536 (by decide)).mono (by rintro e w' ⟨rfl, R, u⟩; exact ⟨_, rfl, by rw [← HTT.out.1], by rw [← HTT.out.2]; exact HQ.out.rd R u⟩)) ?_
                    rintro v w2 ⟨rfl, hq2⟩
                    replace HQ := Lib.hid hq2
                    clear hq2
                    refine any_normQ (by go_simp; all_goals exact rfl) ?_
                    refine any1 4 (by kernel_rfl) ?_
                    rename World => wb
                    refine op_build1Q rfl (by rfl) 25 9 _ rfl (.string tt) rfl Tryz.underlying25 i0 (.string ⟨#[]⟩) hi0 hz0 hz1 rfl ?_
                    have hb4 := blk_alloc wb (.cells #[.string tt] 9)
                    have HN4 := Lib.hid (fun (j : Nat) (u : Value) (hu : ([.string tt] : List Value)[j]? = some u) => show World.cell? _ ((⟨wb.heap.size, 0, none⟩ : Addr).add j) = some u from by rw [show (⟨wb.heap.size, 0, none⟩ : Addr).add j = ⟨wb.heap.size, j, none⟩ from by unfold Addr.add; split <;> simp_all, cell_of_blk hb4]; simpa using hu)
                    replace HQ := Lib.hid (HQ.out.ext ((Upd.refl none' wb).alloc (.cells #[.string tt] 9)))
                    clear hb4
                    refine any_normQ (by go_simp; all_goals exact rfl) ?_
                    refine any1 5 (by kernel_rfl) ?_
                    refine op_app1 rfl (by rfl) (.tmp 79) (.tmp 82) 25 rfl (ba + 1) 9 i0 (.string ⟨#[]⟩) 1 16 Tryz.underlying25 hi0 hz0 hz1 hz2 rfl (by decide) vl _ _ rfl HQ.out.row ⟨wb.heap.size, 0, none⟩ 1 1 [.string tt] rfl rfl HN4.out H1.out HM.out.1 HM.out.2 (lt_of_blk HQ.out.k) ?_
                    intro v' w7 ho hg hbl
                    have hb7 := HQ.out.after hg
                    have c7 := cell_of_blk hb7 7
                    have f7 := free_of_blk hb7 7
                    have HA5 := Lib.hid (HQ.out.app tt ho hg hbl)
                    have HO5 := Lib.hid (own_one ho)
                    have HC5 := Lib.hid (own_cells ho)
                    clear ho hg hbl hb7
                    refine any_normQ (by go_simp; all_goals exact rfl) ?_
                    (refine wpAny_take (i := 6) (v := ?_) rfl (by kernel_rfl) (by kernel_rfl) (by kernel_rfl) (fun _ _ _ h => h) (Or.inl ⟨by rfl, ?_⟩) ?_; rotate_left; (· (intro w; go_simp; all_goals (with_reducible rfl))); refine any_normQ (by go_simp; all_goals exact rfl) ?_)
                    refine any1 7 (by kernel_rfl) ?_
                    refine op_store1 rfl (by rfl) 25 _ _ rfl ⟨bq, 7, none⟩ rfl v' rfl HC5.out HO5.out size_strs vl (by rw [c7]; rfl) f7 ?_
                    clear c7 f7
                    refine any_normQ (by go_simp; all_goals exact rfl) ?_
                    refine wpAny_done (by kernel_rfl) ?_ _
                    go_wp2_with fail
                    exact ⟨⟨j + 1, _, ls ++ [tt], xt, _, by simp, by omega, HA5.out, by rw [List.length_append, HLJ.out]; rfl, HMO.out, fun t ht => by
                      rcases List.mem_append.1 ht with ht | ht
                      · exact HLEN.out t ht
                      · rw [List.mem_singleton.1 ht]; exact HTL.out⟩, by simp [RowKit.intOf]; omega⟩
                  · refine op_callf rfl (by rfl) 53 [.tmp 80, .const (.int .i64 65536)] _ rfl body_text [.pointer (some ⟨w.heap.size + 1, 0, none⟩), .int .i64 65536] rfl (R := fun v w' => v = .string tt ∧ QAt w.heap.size se w w' D (w.heap.size + 1) xt bq w.heap.size ba { q with leaves := ls } vl #[.bool (askE cn), .slice a (askN cn).length cap, .bool (askL cn)]) ((HQ.out.r.text 65536 (by decide)).mono (by rintro e w' ⟨rfl, R, u⟩; exact ⟨_, rfl, by rw [← HTT.out.1], by rw [← HTT.out.2]; exact HQ.out.rd R u⟩)) ?_
                    rintro v w2 ⟨rfl, hq2⟩
                    replace HQ := Lib.hid hq2
                    clear hq2
                    refine any_normQ (by go_simp; all_goals exact rfl) ?_
                    refine any2 1 4 (by kernel_rfl) ?_ ?_
                    · have cl := cell_of_blk HQ.out.a 7
                      refine op_load1 rfl (by rfl) rfl ⟨bq, 7, none⟩ vl rfl Tryz.underlying25 rfl (by rw [cl]; rfl) ?_
                      clear cl
                      refine any_normQ (by go_simp; all_goals exact rfl) ?_
                      refine any1 4 (by kernel_rfl) ?_
                      rename World => wb
                      refine op_build1Q rfl (by rfl) 25 9 _ rfl (.string tt) rfl Tryz.underlying25 i0 (.string ⟨#[]⟩) hi0 hz0 hz1 rfl ?_
                      have hb4 := blk_alloc wb (.cells #[.string tt] 9)
                      have HN4 := Lib.hid (fun (j : Nat) (u : Value) (hu : ([.string tt] : List Value)[j]? = some u) => show World.cell? _ ((⟨wb.heap.size, 0, none⟩ : Addr).add j) = some u from by rw [show (⟨wb.heap.size, 0, none⟩ : Addr).add j = ⟨wb.heap.size, j, none⟩ from by unfold Addr.add; split <;> simp_all, cell_of_blk hb4]; simpa using hu)
                      replace HQ := Lib.hid (HQ.out.ext ((Upd.refl none' wb).alloc (.cells #[.string tt] 9)))
                      clear hb4
                      refine any_normQ (by go_simp; all_goals exact rfl) ?_
                      refine any1 5 (by kernel_rfl) ?_
                      refine op_app1 rfl (by rfl) (.tmp 79) (.tmp 82) 25 rfl (ba + 1) 9 i0 (.string ⟨#[]⟩) 1 16 Tryz.underlying25 hi0 hz0 hz1 hz2 rfl (by decide) vl _ _ rfl HQ.out.row ⟨wb.heap.size, 0, none⟩ 1 1 [.string tt] rfl rfl HN4.out H1.out HM.out.1 HM.out.2 (lt_of_blk HQ.out.k) ?_
                      intro v' w7 ho hg hbl
                      have hb7 := HQ.out.after hg
                      have c7 := cell_of_blk hb7 7
                      have f7 := free_of_blk hb7 7
                      have HA5 := Lib.hid (HQ.out.app tt ho hg hbl)
                      have HO5 := Lib.hid (own_one ho)
                      have HC5 := Lib.hid (own_cells ho)
                      clear ho hg hbl hb7
                      refine any_normQ (by go_simp; all_goals exact rfl) ?_
                      (refine wpAny_take (i := 6) (v := ?_) rfl (by kernel_rfl) (by kernel_rfl) (by kernel_rfl) (fun _ _ _ h => h) (Or.inl ⟨by rfl, ?_⟩) ?_; rotate_left; (· (intro w; go_simp; all_goals (with_reducible rfl))); refine any_normQ (by go_simp; all_goals exact rfl) ?_)
                      refine any1 7 (by kernel_rfl) ?_
                      refine op_store1 rfl (by rfl) 25 _ _ rfl ⟨bq, 7, none⟩ rfl v' rfl HC5.out HO5.out size_strs vl (by rw [c7]; rfl) f7 ?_
                      clear c7 f7
                      refine any_normQ (by go_simp; all_goals exact rfl) ?_
                      refine wpAny_done (by kernel_rfl) ?_ _
                      go_wp2_with fail
                      exact ⟨⟨j + 1, _, ls ++ [tt], xt, _, by simp, by omega, HA5.out, by rw [List.length_append, HLJ.out]; rfl, HMO.out, fun t ht => by
                        rcases List.mem_append.1 ht with ht | ht
                        · exact HLEN.out t ht
                        · rw [List.mem_singleton.1 ht]; exact HTL.out⟩, by simp [RowKit.intOf]; omega⟩
                    · rename World => wb
                      refine op_build1Q rfl (by rfl) 25 9 _ rfl (.string tt) rfl Tryz.underlying25 i0 (.string ⟨#[]⟩) hi0 hz0 hz1 rfl ?_
                      have hb4 := blk_alloc wb (.cells #[.string tt] 9)
                      have HN4 := Lib.hid (fun (j : Nat) (u : Value) (hu : ([.string tt] : List Value)[j]? = some u) => show World.cell? _ ((⟨wb.heap.size, 0, none⟩ : Addr).add j) = some u from by rw [show (⟨wb.heap.size, 0, none⟩ : Addr).add j = ⟨wb.heap.size, j, none⟩ from by unfold Addr.add; split <;> simp_all, cell_of_blk hb4]; simpa using hu)
                      replace HQ := Lib.hid (HQ.out.ext ((Upd.refl none' wb).alloc (.cells #[.string tt] 9)))
                      clear hb4
                      refine any_normQ (by go_simp; all_goals exact rfl) ?_
                      refine any1 1 (by kernel_rfl) ?_
                      have cl := cell_of_blk HQ.out.a 7
                      refine op_load1 rfl (by rfl) rfl ⟨bq, 7, none⟩ vl rfl Tryz.underlying25 rfl (by rw [cl]; rfl) ?_
                      clear cl
                      refine any_normQ (by go_simp; all_goals exact rfl) ?_
                      refine any1 5 (by kernel_rfl) ?_
                      refine op_app1 rfl (by rfl) (.tmp 79) (.tmp 82) 25 rfl (ba + 1) 9 i0 (.string ⟨#[]⟩) 1 16 Tryz.underlying25 hi0 hz0 hz1 hz2 rfl (by decide) vl _ _ rfl HQ.out.row ⟨wb.heap.size, 0, none⟩ 1 1 [.string tt] rfl rfl HN4.out H1.out HM.out.1 HM.out.2 (lt_of_blk HQ.out.k) ?_
                      intro v' w7 ho hg hbl
                      have hb7 := HQ.out.after hg
                      have c7 := cell_of_blk hb7 7
                      have f7 := free_of_blk hb7 7
                      have HA5 := Lib.hid (HQ.out.app tt ho hg hbl)
                      have HO5 := Lib.hid (own_one ho)
                      have HC5 := Lib.hid (own_cells ho)
                      clear ho hg hbl hb7
                      refine any_normQ (by go_simp; all_goals exact rfl) ?_
                      (refine wpAny_take (i := 6) (v := ?_) rfl (by kernel_rfl) (by kernel_rfl) (by kernel_rfl) (fun _ _ _ h => h) (Or.inl ⟨by rfl, ?_⟩) ?_; rotate_left; (· (intro w; go_simp; all_goals (with_reducible rfl))); refine any_normQ (by go_simp; all_goals exact rfl) ?_)
                      refine any1 7 (by kernel_rfl) ?_
                      refine op_store1 rfl (by rfl) 25 _ _ rfl ⟨bq, 7, none⟩ rfl v' rfl HC5.out HO5.out size_strs vl (by rw [c7]; rfl) f7 ?_
                      clear c7 f7
                      refine any_normQ (by go_simp; all_goals exact rfl) ?_
                      refine wpAny_done (by kernel_rfl) ?_ _
                      go_wp2_with fail
                      exact ⟨⟨j + 1, _, ls ++ [tt], xt, _, by simp, by omega, HA5.out, by rw [List.length_append, HLJ.out]; rfl, HMO.out, fun t ht => by
                        rcases List.mem_append.1 ht with ht | ht
                        · exact HLEN.out t ht
                        · rw [List.mem_singleton.1 ht]; exact HTL.out⟩, by simp [RowKit.intOf]; omega⟩
                · obtain rfl : j = m := by omega
                  have hfin := decTexts_end HMOO.out HLJ.out
                  have hdec := HRES.out
                  rw [hfin] at hdec
                  obtain ⟨q2, hq2⟩ : ∃ q2 : QryD, { q with leaves := ls } = q2 := ⟨_, rfl⟩
                  have hdec2 : decQ s = finQ q2 x := by rw [← hq2]; exact hdec
                  have hql : q2.leaves = ls := by rw [← hq2]
                  have hqa2 := HQ.out
                  rw [hq2] at hqa2
                  have HQA := Lib.hid hqa2
                  have HDEC := Lib.hid hdec2
                  have HOV := Lib.hid (own_one hqa2.row)
                  have HLV : Hid (∀ t ∈ q2.leaves, t.size ≤ 9223372036854775807) := Lib.hid (fun t ht => HLEN.out t (by rw [← hql]; exact ht))
                  clear hfin hdec hdec2 hql hqa2 hq2 HQ hlt
                  go_wp2_with fail
                  have E := HQA.out.r.end
                  have HDE := HDEC.out
                  unfold finQ at HDE
                  generalize hfe : RdD.fin x = fe at E HDE
                  have HDF := Lib.hid HDE
                  clear hfe HDE
                  go_wp2_with fail
                  refine E.mono ?_
                  rintro e wE ⟨ev, rfl, hev, uE⟩
                  have HAE := Lib.hid (HQA.out.ext uE)
                  clear E uE
                  cases fe with
                  | none =>
                    obtain rfl : ev = .nilIface := hev
                    have HLD := Lib.hid (fun (j : Nat) (u : Value) (hu : (qCells q2 vl)[j]? = some u) => show World.cell? wE ⟨bq, 0 + j, none⟩ = some u from by rw [cell_of_blk HAE.out.a]; simpa using hu)
                    have HFE := Lib.hid (HAE.out.fin_ok HLV.out)
                    have HZE := Lib.hid HAE.out.z
                    have hzF := Lib.hid (blk_setRow HAE.out.z (qCells q2 vl).toArray)
                    have eDD := HDF.out
                    rw [if_pos rfl] at eDD
                    have HDF2 := Lib.hid eDD
                    clear eDD HDF HAE
                    go_wp2_with (first
                      | (refine wpList_loadAgg rfl 27 _ rfl bq 0 rfl (qCells q2 vl) Tryz.underlying27 rfl qry_size HLD.out ?_)
                      | (refine store_whole rfl 27 _ _ rfl w.heap.size rfl (qCells q2 vl) rfl qry_size zeroQry 27 HZE.out rfl (qry_one _ _ HOV.out) ?_))
                    exact bodyPost_ret (v := .tuple #[.agg (qCells q2 vl).toArray, .nilIface]) (resQ _ _ w.heap.size _ _ rfl rfl hzF.out rfl) rfl (by rw [HDF2.out]; exact HFE.out)
                  | some ee =>
                    have hi := (err_form hev).resolve_left (fun h => by simp at h)
                    obtain ⟨⟨ti, yi, rfl⟩, _⟩ := hi
                    have HFE := Lib.hid (HAE.out.fin_bad hev)
                    have HZE := Lib.hid HAE.out.z
                    have hzF := Lib.hid (blk_setRow HAE.out.z zeroQry.toArray)
                    have eDD := HDF.out
                    rw [if_neg (by simp)] at eDD
                    have HDF2 := Lib.hid eDD
                    clear eDD HDF HAE hev
                    go_wp2_with (refine store_whole rfl 27 _ _ rfl w.heap.size rfl zeroQry rfl qry_size zeroQry 27 HZE.out rfl (qry_one zeroQ _ rfl) ?_)
                    exact bodyPost_ret (v := .tuple #[.agg zeroQry.toArray, .iface ti yi]) (resQ _ _ w.heap.size _ _ rfl rfl hzF.out rfl) rfl (by rw [HDF2.out]; exact HFE.out)
end Go.Proofs.YtljnhelnmnomoaaGreatDoor
