/- What stays behind each leaf, and behind each tile, that Append puts: plain lemmas. Two leaves' hashes and their node's, by SHA-256: plain. What two leaves make of an empty log: plain. -/
import Derived.Test.YtnkcfkjeeennmaaGreatDoorPathW
import Derived.Test.YtnkcfkjeeennmaaGreatDoorShaU
namespace Go.Proofs.YtnkcfkjeeennmaaGreatDoor
open Go.RowKit Go.Lib


/-- A log's growth by leaves. -/
def appG (n : Nat) (es : List (List HB)) (ls : List (List UInt8)) : GrP := addsP n (leafHs ls) (gr0 es)
theorem leafHs_len (ls : List (List UInt8)) : (leafHs ls).length = ls.length := by simp [leafHs]
theorem appG_inv {n : Nat} {es : List (List HB)} {ls : List (List UInt8)} (hf : fitsP n es) (h32 : E32 es) (hn : n + ls.length ≤ 1048576) : GInv (n + ls.length) (3 * ls.length) (appG n es ls) := by
  have h := GInv.adds (leafHs ls) (GInv.start hf h32 (by have := fits_3 hf (by omega); omega)) (by rw [leafHs_len]; exact hn) (leafHs_32 ls)
  rw [leafHs_len, Nat.zero_add] at h
  exact h
theorem appG_lok {n : Nat} {es : List (List HB)} {ls : List (List UInt8)} (hf : fitsP n es) (h32 : E32 es) (hn : n + ls.length ≤ 1048576) : LOk (appG n es ls) :=
  addsP_lok (leafHs ls) (GInv.start hf h32 (by have := fits_3 hf (by omega); omega)) (fun k t ht => by simp [gr0] at ht) (by rw [leafHs_len]; exact hn) (leafHs_32 ls)
/-- The first j leaves are put, and their hashes are in the growth. -/
structure LfAt (B2 gb q a wb b mb bb n : Nat) (se : Nat → Addr) (tv : Value) (x : StD) (o : List UInt8) (root : HB) (ev : Value) (es : List (List HB)) (ls : List (List UInt8)) (W8 : World) (j : Nat) (V : GrV) (D : GrD) (wr : World) : Prop where
  cl : ClAt wr q a wb b mb se tv o n root ev (putsL (x, none) (leafPuts n (ls.take j)))
  gr : GrAt B2 wr gb V D
  p : D.p = appG n es (ls.take j)
  n : D.n = n + j
  l : D.l = peaksE nodeH D.es
  bb : V.bb = bb
  u : Upd (fun g => g = b ∨ g = mb ∨ B2 ≤ g) W8 wr
/-- What lies below. -/
structure LowAt (B2 q a wb b mb : Nat) (tv : Value) : Prop where
  a : a < B2
  wb : wb < B2
  b : b < B2
  mb : mb < B2
  tv : ∀ g, tv.ownBlock = some g → g < B2
  q : B2 ≤ q
theorem GrD.p_es (D : GrD) : D.p.es = D.es := rfl
section
variable {B2 gb q a wb b mb bb n : Nat} {se : Nat → Addr} {tv : Value} {x : StD} {o : List UInt8} {root : HB} {ev : Value} {es : List (List HB)} {ls : List (List UInt8)} {W8 wr : World} {j : Nat} {V : GrV} {D : GrD}
theorem LfAt.inv (h : LfAt B2 gb q a wb b mb bb n se tv x o root ev es ls W8 j V D wr) (hf : fitsP n es) (h32 : E32 es) (hj : j ≤ ls.length) (hn : n + ls.length ≤ 1048576) : GInv D.n (3 * j) D.p := by
  have h1 := appG_inv (ls := ls.take j) hf h32 (by rw [List.length_take]; omega)
  rw [List.length_take, Nat.min_eq_left hj] at h1
  rw [h.p, h.n]
  exact h1
theorem LfAt.inv32 (h : LfAt B2 gb q a wb b mb bb n se tv x o root ev es ls W8 j V D wr) (hf : fitsP n es) (h32 : E32 es) (hj : j ≤ ls.length) (hn : n + ls.length ≤ 1048576) : H32 D.l ∧ ones D.n ≤ D.l.length ∧ D.l.length ≤ 64 := by
  have hi := h.inv hf h32 hj hn
  have he := D.p_es
  refine ⟨?_, ?_, ?_⟩
  · rw [h.l]; exact peaksE_32 _ hi.h
  · have := hi.ones
    rw [he] at this
    rwa [h.l]
  · have h1 := peaksE_len D.es
    have h2 := fits_3 hi.f (by have := h.n; omega)
    have h3 : D.es.length ≤ 3 := h2
    rw [h.l]
    omega
theorem frame_q {T : TypeId} {cs : Array Value} {f : Nat × Nat} (L : LowAt B2 q a wb b mb tv) {w : World} (hq : w.heap[q]? = some (.cells cs T f)) (hT : T ∉ grTys) : ∀ g, B2 ≤ g → g < w.heap.size → three b mb q g → ∃ c T f, T ∉ grTys ∧ w.heap[g]? = some (.cells c T f) := fun g hB _ hg => by
  rcases hg with e | e | e
  · have := L.b; omega
  · have := L.mb; omega
  · rw [e]; exact ⟨_, _, _, hT, hq⟩
theorem errT : 38 ∉ grTys := by decide
/-- What the growth does leaves what the closure holds. -/
theorem ClAt.keeps {w w' : World} {r : StD × EV} (L : LowAt B2 q a wb b mb tv) (h : ClAt w q a wb b mb se tv o n root ev r) (u : Upd (fun g => B2 ≤ g) w w') (k : KeepsG w w') : ClAt w' q a wb b mb se tv o n root ev r :=
  ⟨k _ errT _ _ _ h.ok, u.blk h.box (by have := L.a; show ¬ B2 ≤ a; omega), h.wr.upd u (by have := L.wb; show ¬ B2 ≤ wb; omega), h.st.upd u (by have := L.b; show ¬ B2 ≤ b; omega) (by have := L.mb; show ¬ B2 ≤ mb; omega) (fun g hg => by have := L.tv g hg; show ¬ B2 ≤ g; omega)⟩
theorem LfAt.next {w5 w6 w7 : World} {s : List UInt8} {V' : GrV} {D' : GrD} (L : LowAt B2 q a wb b mb tv) (h : LfAt B2 gb q a wb b mb bb n se tv x o root ev es ls W8 j V D wr) (hf : fitsP n es) (h32 : E32 es) (hj : j < ls.length) (hn : n + ls.length ≤ 1048576) (hs : s = ls.getD j [])
    (h5 : ClAt w5 q a wb b mb se tv o n root ev (putP (putsL (x, none) (leafPuts n (ls.take j))) (leafN (n + j), str s))) (u5 : Upd (three b mb q) wr w5) (u6 : Ext w5 w6)
    (hg : GrAt B2 w7 gb V' D') (hp : D'.p = pushes D.n D.l (leafH s) D.p (ones D.n / 8 + 1)) (hn' : D'.n = D.n + 1) (hl' : D'.l = D.l.take (D.l.length - ones D.n) ++ [cr nodeH D.l (ones D.n) (leafH s)]) (hbb : V'.bb = V.bb) (u7 : Upd (fun g => B2 ≤ g) w6 w7) (k7 : KeepsG w6 w7) :
    LfAt B2 gb q a wb b mb bb n se tv x o root ev es ls W8 (j + 1) V' D' w7 := by
  have hi := h.inv hf h32 (by omega) hn
  have htk : ls.take (j + 1) = ls.take j ++ [s] := by rw [List.take_succ_eq_append_getElem hj, hs, List.getD_eq_getElem?_getD, List.getElem?_eq_getElem hj]; rfl
  have hlt : (ls.take j).length = j := by rw [List.length_take]; omega
  have hp2 : D'.p = addP D.n (leafH s) D.p := by
    rw [hp, h.l]
    rfl
  refine ⟨?_, hg, ?_, by rw [hn', h.n]; omega, ?_, by rw [hbb, h.bb], ?_⟩
  · rw [htk, leafPuts_snoc, putsL_snoc, hlt]
    exact (h5.ext u6).keeps L u7 k7
  · rw [htk]
    unfold appG
    rw [show leafHs (ls.take j ++ [s]) = leafHs (ls.take j) ++ [leafH s] by simp [leafHs], addsP_snoc, leafHs_len, hlt, hp2, h.n, h.p]
    rfl
  · have hs2 := step_main nodeH D.p.es D.n (leafH s) hi.f
    have he : D'.es = stepE nodeH D.es (leafH s) := by
      have := congrArg GrP.es hp2
      rw [addP_es D.n (leafH s) D.p hi.f] at this
      exact this
    rw [he, hl', h.l]
    exact hs2.2.1.symm
  · refine h.u.trans ((u5.mono (fun g _ hg => ?_)).trans (((Upd.ext u6 _)).trans (u7.mono (fun g _ hg => .inr (.inr hg)))))
    rcases hg with e | e | e
    · exact .inl e
    · exact .inr (.inl e)
    · exact .inr (.inr (by rw [e]; exact L.q))
end
/-- The first k tiles are put. -/
structure TlAt (B2 gb q a wb b mb n : Nat) (se : Nat → Addr) (tv : Value) (r1 : StD × EV) (o : List UInt8) (root : HB) (ev : Value) (W8 : World) (V : GrV) (D : GrD) (v : Value) (out : List LaidD) (k : Nat) (wr : World) : Prop where
  cl : ClAt wr q a wb b mb se tv o n root ev (putsL r1 ((out.take k).map (fun x => tileT x.p)))
  gr : GrAt B2 wr gb V D
  tl : wr.ownsRow B2 117 4 v out.length (laidCs out)
  hs : ∀ x ∈ out, wr.ownsRow B2 30 32 x.v x.hs.length (hcells x.hs)
  u : Upd (fun g => g = b ∨ g = mb ∨ B2 ≤ g) W8 wr
section
variable {B2 gb q a wb b mb n : Nat} {se : Nat → Addr} {tv : Value} {r1 : StD × EV} {o : List UInt8} {root : HB} {ev : Value} {W8 wr : World} {k : Nat} {V : GrV} {D : GrD} {v : Value} {out : List LaidD}
theorem TlAt.ext {w' : World} (h : TlAt B2 gb q a wb b mb n se tv r1 o root ev W8 V D v out k wr) (u : Ext wr w') : TlAt B2 gb q a wb b mb n se tv r1 o root ev W8 V D v out k w' :=
  ⟨h.cl.ext u, h.gr.ext u, ownsRow_upd h.tl u (fun _ _ => id), fun x hx => ownsRow_upd (h.hs x hx) u (fun _ _ => id), h.u.trans (Upd.ext u _)⟩
theorem TlAt.next {w5 : World} {d : LaidD} (L : LowAt B2 q a wb b mb tv) (h : TlAt B2 gb q a wb b mb n se tv r1 o root ev W8 V D v out k wr) (hk : out[k]? = some d)
    (h5 : ClAt w5 q a wb b mb se tv o n root ev (putP (putsL r1 ((out.take k).map (fun x => tileT x.p))) (tileT d.p))) (u5 : Upd (three b mb q) wr w5) : TlAt B2 gb q a wb b mb n se tv r1 o root ev W8 V D v out (k + 1) w5 := by
  obtain ⟨hlt, hd⟩ := List.getElem?_eq_some_iff.1 hk
  have hq := h.cl.ok
  have row : ∀ {e size m : Nat} {v : Value} {xs : List Value}, wr.ownsRow B2 e size v m xs → e ≠ 38 → w5.ownsRow B2 e size v m xs := fun hr he =>
    ownsRow_upd hr u5 (fun g hg hs => by
      rcases hs with e | e | e
      · have h1 := (hr.lt g hg).1; have := L.b; omega
      · have h1 := (hr.lt g hg).1; have := L.mb; omega
      · exact rowNe hr hq he g hg e)
  refine ⟨?_, h.gr.frame u5 (frame_q L hq errT), row h.tl (by decide), fun x hx => row (h.hs x hx) (by decide), h.u.trans (u5.mono (fun g _ hg => ?_))⟩
  · rw [List.take_succ_eq_append_getElem hlt, List.map_append, List.map_cons, List.map_nil, putsL_snoc, hd]
    exact h5
  · rcases hg with e | e | e
    · exact .inl e
    · exact .inr (.inl e)
    · exact .inr (.inr (by rw [e]; exact L.q))
end
theorem laidCs_get : ∀ {out : List LaidD} {k : Nat} {d : LaidD}, out[k]? = some d → ∀ (i : Nat) (v : Value), (laidC d)[i]? = some v → (laidCs out)[k * 4 + i]? = some v
  | [], k, d, h, _, _, _ => by simp at h
  | a :: l, 0, d, h, i, v, hv => by
    have e : a = d := by simpa using h
    subst e
    show ((laidC a) ++ laidCs l)[0 * 4 + i]? = some v
    rw [Nat.zero_mul, Nat.zero_add, List.getElem?_append_left (List.getElem?_eq_some_iff.1 hv).1]
    exact hv
  | a :: l, k + 1, d, h, i, v, hv => by
    show ((laidC a) ++ laidCs l)[(k + 1) * 4 + i]? = some v
    have hl : (laidC a).length = 4 := rfl
    rw [show (k + 1) * 4 + i = 4 + (k * 4 + i) by omega, List.getElem?_append_right (by omega), hl, show 4 + (k * 4 + i) - 4 = k * 4 + i by omega]
    exact laidCs_get (by simpa using h) i v hv
theorem tilesP_len {M n : Nat} {G : GrP} (h : ∀ k, (G.ls.getD k []).length ≤ M) : ∀ T, (tilesP n G T).length ≤ T * (M + 1)
  | 0 => by simp [tilesP]
  | T + 1 => by
    have h1 := tilesP_len (n := n) h T
    have h2 : (tileK n G T).length ≤ M + 1 := by
      unfold tileK
      rw [List.length_append]
      refine Nat.add_le_add (h T) ?_
      split <;> simp
    unfold tilesP at h1 ⊢
    rw [List.range_succ, List.map_append, List.flatten_append, List.length_append]
    simp only [List.map_cons, List.map_nil, List.flatten_cons, List.flatten_nil, List.append_nil]
    rw [Nat.succ_mul]
    omega
theorem grpF_len : ∀ (n : Nat) (l : List UInt8), (grpF n l).length ≤ 3 * l.length
  | 0, l => by unfold grpF; omega
  | n + 1, l => by
    unfold grpF
    split
    · omega
    · have h := grpF_len n (l.drop 3)
      rw [List.length_drop] at h
      simp only [List.length_cons, List.length_append, List.length_take]
      omega
theorem pathB_len (k i w : Nat) (hk : k ≤ 65536) (hi : i ≤ 65536) (hw : w ≤ 65536) : (pathB k i w).length ≤ 200 := by
  have h1 := dec_len k (by omega)
  have h2 := dec_len i (by omega)
  have h3 := dec_len w (by omega)
  have h4 := grpF_len (pad3 (Go.Lib.decDigits i)).length (pad3 (Go.Lib.decDigits i))
  have h5 : (pad3 (Go.Lib.decDigits i)).length ≤ (Go.Lib.decDigits i).length + 2 := by
    unfold pad3
    rw [List.length_append, List.length_replicate]
    omega
  have h6 : (if w < 256 then [46, 112, 47] ++ Go.Lib.decDigits w else ([] : List UInt8)).length ≤ 23 := by
    split
    · simp only [List.length_append, List.length_cons, List.length_nil]; omega
    · simp
  have h7 : tileB.length ≤ 5 := by decide
  unfold pathB grp
  simp only [List.length_append, List.length_cons, List.length_nil] at h6 ⊢
  omega
theorem foldP_len {l : List HB} (h : H32 l) : (foldP l).length = 32 := by
  unfold foldP
  split
  · exact emptyH_len
  · rename_i h0
    have hl : 0 < l.length := by
      cases l with
      | nil => exact absurd rfl h0
      | cons a t => simp
    exact cr_len32 (fun x hx => h x (List.mem_of_mem_take hx)) (h.getD _ (by omega)) _ (by rw [List.length_take]; omega)
theorem putsL_append (r : StD × EV) (a b : List (ByteArray × ByteArray)) : putsL r (a ++ b) = putsL (putsL r a) b := by unfold putsL; rw [List.foldl_append]
/-- A new checkpoint's zero. -/
abbrev zckA : Array Value := #[.string ⟨#[]⟩, .int .u64 0, .int .u8 0, .int .u8 0, .int .u8 0, .int .u8 0, .int .u8 0, .int .u8 0, .int .u8 0, .int .u8 0, .int .u8 0, .int .u8 0, .int .u8 0, .int .u8 0, .int .u8 0, .int .u8 0, .int .u8 0, .int .u8 0, .int .u8 0, .int .u8 0, .int .u8 0, .int .u8 0, .int .u8 0, .int .u8 0, .int .u8 0, .int .u8 0, .int .u8 0, .int .u8 0, .int .u8 0, .int .u8 0, .int .u8 0, .int .u8 0, .int .u8 0, .int .u8 0, .slice none 0 0]
theorem zck_zero : (Tryz.prog.info? 32).bind (·.zero) = some (.agg zckA) := by kernel_rfl
def PZ (m : Nat) (v : Value) (w : World) : Prop := ∃ g, m ≤ g ∧ v = .pointer (some ⟨g, 0, none⟩) ∧ w.heap[g]? = some (.cells zckA 32 (0, 0))
theorem pz_lasts (m : Nat) : Lasts (PZ m) := fun v w w' ⟨g, h0, h1, h2⟩ u => ⟨g, h0, h1, Ext.blk u h2⟩
theorem wr_put (sp : Value) (C : List Value) (u v : Value) (hC : C.length = 35) (v' : Value) : (sp :: (C ++ [u, v])).toArray.setIfInBounds 37 v' = (sp :: (C ++ [u, v'])).toArray ∧ (sp :: (C ++ [u, v])).toArray.setIfInBounds 36 v' = (sp :: (C ++ [v', v])).toArray := by
  constructor
  · rw [List.setIfInBounds_toArray, show (37 : Nat) = 36 + 1 from rfl, List.set_cons_succ, List.set_append_right _ _ (by omega), hC]
    rfl
  · rw [List.setIfInBounds_toArray, show (36 : Nat) = 35 + 1 from rfl, List.set_cons_succ, List.set_append_right _ _ (by omega), hC]
    rfl
theorem wr_over (sp : Value) (C C' : List Value) (u v : Value) (hC : C.length = 35) (hC' : C'.length = 35) : over (sp :: (C ++ [u, v])) 1 C' = sp :: (C' ++ [u, v]) := by
  unfold over
  rw [show (1 : Nat) = 0 + 1 from rfl, List.take_succ_cons, List.take_zero, show 0 + 1 + C'.length = C'.length + 1 by omega, List.drop_succ_cons, hC', List.drop_left' hC]
  simp
theorem WrAt.ends {w : World} {wb : Nat} {sp : Value} {o : List UInt8} {n : Nat} {root : HB} {ev : Value} {ended : Bool} (h : WrAt w wb sp o n root ev ended) (hr : root.length = 32) : WrAt (w.setCell ⟨wb, 37, none⟩ (.bool true)) wb sp o n root ev true :=
  ⟨by
    have := blk_set h.blk 37 (.bool true)
    unfold wrC at this ⊢
    rwa [(wr_put sp (ckC o n root) ev (.bool ended) (ck_len o n root hr) (.bool true)).1] at this⟩
theorem WrAt.setCk {w : World} {wb : Nat} {sp : Value} {o : List UInt8} {n : Nat} {root : HB} {ev : Value} {ended : Bool} (h : WrAt w wb sp o n root ev ended) (hr : root.length = 32) (o' : List UInt8) (n' : Nat) (root' : HB) (hr' : root'.length = 32) : WrAt (w.setRow wb (over (wrC sp o n root ev ended) 1 (ckC o' n' root')).toArray) wb sp o' n' root' ev ended :=
  ⟨by
    have := blk_setRow h.blk (over (wrC sp o n root ev ended) 1 (ckC o' n' root')).toArray
    rw [show over (wrC sp o n root ev ended) 1 (ckC o' n' root') = wrC sp o' n' root' ev ended from wr_over sp _ _ ev (.bool ended) (ck_len o n root hr) (ck_len o' n' root' hr')] at this ⊢
    exact this⟩
theorem WrAt.setEv {w : World} {wb : Nat} {sp : Value} {o : List UInt8} {n : Nat} {root : HB} {ev : Value} {ended : Bool} (h : WrAt w wb sp o n root ev ended) (hr : root.length = 32) (ev' : Value) : WrAt (w.setCell ⟨wb, 36, none⟩ ev') wb sp o n root ev' ended :=
  ⟨by
    have := blk_set h.blk 36 ev'
    unfold wrC at this ⊢
    rwa [(wr_put sp (ckC o n root) ev (.bool ended) (ck_len o n root hr) ev').2] at this⟩
theorem run_storeAggAt {P : Program} {o : Oper} {a : Act} {w : World} (ty : TypeId) (x y : Operand) (ho : o.op = .store ty x y) (g off : Nat) (hx : a.eval x = .pointer (some ⟨g, off, none⟩)) (vs : List Value) (hy : a.eval y = .agg vs.toArray) (hs : (P.info? ty).map (·.size) = some vs.length)
    (cs : List Value) (t : TypeId) (hg : w.heap[g]? = some (.cells cs.toArray t (0, 0))) (hfit : off + vs.length ≤ cs.length) (h1 : ∀ u ∈ vs, u.oneCell' = true) : (execOp a.eval o).run P w = .ok .skip (w.setRow g (over cs off vs).toArray) := by
  have hst := run_storeCells_at P g off t vs 0 cs.toArray w hg (by simpa using hfit) h1
  cases hq : P.info? ty with
  | none => simp [hq] at hs
  | some it =>
    have hss : it.size = vs.length := by simpa [hq] using hs
    simp only [Nat.add_zero] at hst
    unfold execOp
    simp [ho, hx, hy, Instr.storeAt, Instr.sureAddr, storeVar, sizeOf, typeInfo, hq, hss, Value.cells, hst]
    rfl
set_option maxRecDepth 20000 in
theorem run_zck (w : World) : (Instr.build 32 #[]).run Tryz.prog w = .ok (.agg (ckC [] 0 z32B).toArray) w := by
  go_simp
  rfl
theorem not_eg {cs : Array Value} {T : TypeId} {f : Nat × Nat} (h1 : T ≠ 65) (h2 : T ≠ 30) : ∀ (c : Array Value) (f' : Nat × Nat), Obj.cells cs T f ≠ .cells c 65 f' ∧ Obj.cells cs T f ≠ .cells c 30 f' := fun c f' =>
  ⟨fun e => h1 (by injection e), fun e => h2 (by injection e)⟩
theorem EgAt.one {B : Nat} {w w' : World} {ev : Value} {es : List (List HB)} {vs : List Value} {b : Nat} {cs : Array Value} {T : TypeId} {f : Nat × Nat} (h : EgAt B w ev es vs) (u : Upd (one b) w w') (hb : w.heap[b]? = some (.cells cs T f)) (h1 : T ≠ 65) (h2 : T ≠ 30) : EgAt B w' ev es vs :=
  h.upd u (fun g _ hs => ⟨_, (congrArg (fun k => w.heap[k]?) (show g = b from hs)).trans hb, not_eg h1 h2⟩)
/-- What the region that puts the checkpoint reads. -/
structure A37 (a wb b cg : Nat) (C : List Value) (w : World) : Prop where
  fb : w.cell? ⟨a, 0, none⟩ = some (.pointer (some ⟨wb, 0, none⟩))
  fs : w.cell? ⟨wb, 0, none⟩ = some (.pointer (some ⟨b, 0, none⟩))
  fc : ∀ j v, C[j]? = some v → w.cell? ⟨cg, 0 + j, none⟩ = some v
theorem A37.upd {S : Nat → Prop} {a wb b cg : Nat} {C : List Value} {w w' : World} (h : A37 a wb b cg C w) (u : Upd S w w') (h1 : ¬ S a) (h2 : ¬ S wb) (h3 : ¬ S cg) : A37 a wb b cg C w' :=
  ⟨(u.cell (lt_of_cell h.fb) h1).trans h.fb, (u.cell (lt_of_cell h.fs) h2).trans h.fs, fun j v hv => (u.cell (lt_of_cell (h.fc j v hv)) h3).trans (h.fc j v hv)⟩
theorem body_puts : hasBody Tryz.prog 53 = true := by kernel_rfl
theorem GrAt.eg {B B2 gb : Nat} {w : World} {V : GrV} {D : GrD} (h : GrAt B2 w gb V D) (hB : B ≤ B2) : EgAt B w V.ev D.es V.vs := ⟨ownLow h.er hB, fun k => ownLow (h.ee k) hB⟩
theorem StAt.mb_eg {w : World} {b mb : Nat} {tv : Value} {x : StD} (h : StAt w b mb tv x) : ∃ o, w.heap[mb]? = some o ∧ ∀ c f, o ≠ .cells c 65 f ∧ o ≠ .cells c 30 f := by
  obtain ⟨es, c, hmb⟩ := h.tex.blk
  exact ⟨_, hmb, fun c f => ⟨nofun, nofun⟩⟩
def rootE (es : List (List HB)) : HB := foldP (peaksE nodeH es)
def appPuts (n : Nat) (es : List (List HB)) (ls : List (List UInt8)) : List (ByteArray × ByteArray) := leafPuts n ls ++ (tilesP (n + ls.length) (appG n es ls) (appG n es ls).ts.length).map tileT
def appR (x : StD) (o : List UInt8) (n : Nat) (es : List (List HB)) (ls : List (List UInt8)) : StD × EV := putP (putsL (x, none) (appPuts n es ls)) (str headB, str (ckptB o (n + ls.length) (rootE (appG n es ls).es)))

theorem abs64 (l : List UInt8) (h : l.length = 64) : abs shaStart l = blockP shaStart l := by
  unfold abs
  rw [absorb_ge blockP (by omega), absorb_lt blockP (by rw [List.length_drop]; omega), List.take_of_length_le (by omega)]
theorem abs128 (l : List UInt8) (h : l.length = 128) : abs shaStart l = blockP (blockP shaStart (l.take 64)) (l.drop 64) := by
  unfold abs
  rw [absorb_ge blockP (by omega), absorb_ge blockP (by rw [List.length_drop]; omega), absorb_lt blockP (by rw [List.length_drop, List.length_drop]; omega), List.take_of_length_le (l := l.drop 64) (by rw [List.length_drop]; omega)]
def hA : List UInt8 := [2, 42, 105, 121, 230, 218, 183, 170, 90, 228, 195, 229, 228, 95, 126, 151, 113, 18, 167, 230, 53, 147, 130, 13, 190, 193, 236, 115, 138, 36, 249, 60]
def hB : List UInt8 := [87, 235, 53, 97, 93, 71, 243, 78, 199, 20, 202, 205, 245, 253, 116, 96, 138, 94, 142, 16, 39, 36, 232, 11, 36, 178, 135, 192, 194, 123, 106, 49]
def hAB : List UInt8 := [177, 55, 152, 95, 244, 132, 251, 96, 13, 185, 49, 7, 199, 123, 3, 101, 200, 13, 120, 245, 180, 41, 222, 208, 253, 151, 54, 29, 7, 121, 153, 235]
set_option maxRecDepth 100000 in
theorem leaf_a : leafH [97] = hA := by
  unfold leafH shaB
  rw [abs64 _ (by decide)]
  decide +kernel
set_option maxRecDepth 100000 in
theorem leaf_b : leafH [98] = hB := by
  unfold leafH shaB
  rw [abs64 _ (by decide)]
  decide +kernel
set_option maxRecDepth 100000 in
theorem node_ab : nodeH (leafH [97]) (leafH [98]) = hAB := by
  rw [leaf_a, leaf_b]
  unfold nodeH shaB
  rw [abs128 _ (by decide)]
  decide +kernel

def oL : List UInt8 := [108, 111, 103]
def lsAB : List (List UInt8) := [[97], [98]]
def nL0 : List UInt8 := [108, 101, 97, 102, 47, 48]
def nL1 : List UInt8 := [108, 101, 97, 102, 47, 49]
def nT0 : List UInt8 := [116, 105, 108, 101, 47, 48, 47, 48, 48, 48, 46, 112, 47, 50]
theorem leafN0 : leafN 0 = str nL0 := by decide +kernel
theorem leafN1 : leafN 1 = str nL1 := by decide +kernel
theorem pathT0 : pathB 0 0 2 = nT0 := by decide +kernel
theorem appG_ab : appG 0 [] lsAB = ⟨[[leafH [97], leafH [98]]], [[]], [true]⟩ := by
  unfold appG lsAB
  show addP 1 (leafH [98]) (addP 0 (leafH [97]) (gr0 [])) = _
  generalize leafH [97] = x
  generalize leafH [98] = y
  have e0 : ones 0 = 0 := ones_even (by decide)
  have e1 : ones 1 = 1 := by rw [ones_odd (by decide), show 1 / 2 = 0 from rfl, e0]
  unfold addP
  rw [e0, e1]
  rfl
theorem root_ab : rootE (appG 0 [] lsAB).es = nodeH (leafH [97]) (leafH [98]) := by
  rw [appG_ab]
  generalize leafH [97] = x
  generalize leafH [98] = y
  rfl
theorem puts_ab : appPuts 0 [] lsAB = [(str nL0, str [97]), (str nL1, str [98]), (str nT0, str (leafH [97] ++ leafH [98]))] := by
  unfold appPuts
  rw [appG_ab]
  generalize leafH [97] = x
  generalize leafH [98] = y
  show [(leafN 0, str [97]), (leafN 1, str [98])] ++ [(str (pathB 0 0 2), str (x ++ (y ++ [])))] = _
  rw [leafN0, leafN1, pathT0, List.append_nil]
  rfl
theorem put_head (t : ByteArray) : StD.put ⟨[], [], 0, 0, 0, false⟩ (str headB) t = (⟨[(str headB, t)], [], 0, 0, 1, false⟩, none) := by rfl
theorem appR_ab (t0 : ByteArray) : ∃ c a b t, appR ⟨[(str headB, t0)], [], 0, 0, 1, false⟩ oL 0 [] lsAB = (⟨[(str headB, c), (str nL0, a), (str nL1, b), (str nT0, t)], [], 0, 0, 5, false⟩, none) := by
  unfold appR
  rw [puts_ab]
  generalize str (ckptB oL (0 + lsAB.length) (rootE (appG 0 [] lsAB).es)) = c
  generalize str (leafH [97] ++ leafH [98]) = t
  exact ⟨c, str [97], str [98], t, rfl⟩
theorem names_ab (c a b t : ByteArray) : namesL [(str headB, c), (str nL0, a), (str nL1, b), (str nT0, t)] = [headB, nL0, nL1, nT0] := by
  unfold namesL
  refine Eq.trans (List.mergeSort_of_pairwise ?_) ?_
  · simp only [List.map_cons, List.map_nil]
    decide +kernel
  · rfl
theorem has_head (t : ByteArray) (zs : List Int) (c : Int) (k n : Nat) (d : Bool) : hasB ⟨[(str headB, t)], zs, c, k, n, d⟩ = true := by
  unfold hasB
  have h : namesL [(str headB, t)] = [headB] := by
    unfold namesL
    refine Eq.trans (List.mergeSort_of_pairwise ?_) ?_
    · simp
    · rfl
  rw [h]
  decide +kernel
theorem has_none (zs : List Int) (c : Int) (k n : Nat) (d : Bool) : hasB ⟨[], zs, c, k, n, d⟩ = false := by
  unfold hasB
  have h : namesL [] = [] := by
    unfold namesL
    simp
  rw [h]
  decide +kernel
theorem name_log : nameB oL = true := by decide +kernel
theorem long_ab : lsAB.any longS = false := by decide +kernel
theorem node_nz : nodeH (leafH [97]) (leafH [98]) ≠ z32B := by
  rw [node_ab]
  decide +kernel
end Go.Proofs.YtnkcfkjeeennmaaGreatDoor
