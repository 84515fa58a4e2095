/- cartularyref27.DecodeAnswer by a contract: bytes that are refused ahead; what lies in memory while it reads. cartularyref27.DecodeAnswer by a contract: any bytes. -/
import Derived.Test.YtljnhelnmnomoaaGreatDoorRefS
import Derived.Test.YtljnhelnmnomoaaGreatDoorRefr
import Derived.Test.YtljnhelnmnomoaaGreatDoorDecA
import Derived.Test.YtljnhelnmnomoaaGreatDoorTyped
import Derived.Test.YtljnhelnmnomoaaGreatDoorBook
namespace Go.Proofs.YtljnhelnmnomoaaGreatDoor
open Go.RowKit Go.Lib


def RefTPost (w : World) (r : AnsD × EV) (e : Ending) (w' : World) : Prop :=
  ∃ a cap, e = .returned (.tuple #[.agg (ansCells r.1 (.slice a r.1.hs.length cap)), efV r.2]) ∧ HashesAt w' a r.1.hs ∧ Ext w w'
theorem resRT (tmps : Array Value) (w : World) (g h : Nat) (cs fs : Array Value) (hp : tmps.getD 2 undef = .pointer (some ⟨g, 0, none⟩)) (hp2 : tmps.getD 3 undef = .pointer (some ⟨h, 0, none⟩)) (hg : w.heap[g]? = some (.cells cs 70 (0, 0))) (hs : cs.size = 4)
    (hg2 : w.heap[h]? = some (.cells fs 36 (0, 0))) (hs2 : fs.size = 2) :
    (results Tryz.f19 tmps).run Tryz.prog w = .ok (.tuple #[.agg cs, .agg fs]) w := by
  have hp' : tmps[2]?.getD undef = .pointer (some ⟨g, 0, none⟩) := by simpa using hp
  have hp2' : tmps[3]?.getD undef = .pointer (some ⟨h, 0, none⟩) := by simpa using hp2
  have hr : Tryz.f19.results = #[.cell 2 70, .cell 3 36] := rfl
  simp [results, hr, hp', hp2', asAddr, run_loadVar_row w g 70 70 cs (0, 0) _ hg Tryz.underlying70 rfl (by rw [hs]; exact ans_size), run_loadVar_row w h 36 36 fs (0, 0) _ hg2 Tryz.underlying36 rfl (by rw [hs2]; exact fault_size2)]
theorem zeroAns_one : ∀ u ∈ zeroAns, u.oneCell' = true := ans_one 0 0 (.slice none 0 0) ⟨#[]⟩ rfl
/-- The two result variables. -/
structure Res2A (w W : World) : Prop where
  ext : Ext w W
  q : W.heap[w.heap.size]? = some (.cells zeroAns.toArray 70 (0, 0))
  f : W.heap[w.heap.size + 1]? = some (.cells #[.int .i64 0, .int .i64 0] 36 (0, 0))
theorem Res2A.start (w : World) : Res2A w ((w.alloc (.cells zeroAns.toArray 70)).alloc (.cells #[.int .i64 0, .int .i64 0] 36)) :=
  ⟨((Upd.refl none' w).alloc _).alloc _, blk_alloc_lt (blk_alloc w _) _, by have := blk_alloc (w.alloc (.cells zeroAns.toArray 70)) (.cells #[.int .i64 0, .int .i64 0] 36); rwa [World.size_alloc] at this⟩
theorem Res2A.upd {w W W' : World} {S : Nat → Prop} (h : Res2A w W) (u : Upd S W W') (hS : ∀ k, S k → w.heap.size + 2 ≤ k) : Res2A w W' :=
  ⟨⟨(u.os.trans h.ext.os), (u.tape.trans h.ext.tape), (u.output.trans h.ext.output), Nat.le_trans h.ext.size u.size, fun b hb _ => (u.block b (Nat.lt_of_lt_of_le hb h.ext.size) (fun hs => by have := hS b hs; omega)).trans (h.ext.block b hb id)⟩,
   u.blk h.q (fun hs => by have := hS _ hs; omega), u.blk h.f (fun hs => by have := hS _ hs; omega)⟩
theorem Res2A.exts {w W W' : World} (h : Res2A w W) (u : Ext W W') : Res2A w W' := h.upd u (fun _ hk => hk.elim)
/-- The two results are stored. -/
structure End2A (w W : World) (cs fs : Array Value) : Prop where
  zq : W.heap[w.heap.size]? = some (.cells zeroAns.toArray 70 (0, 0))
  zf : (W.setRow w.heap.size cs).heap[w.heap.size + 1]? = some (.cells #[.int .i64 0, .int .i64 0] 36 (0, 0))
  q : ((W.setRow w.heap.size cs).setRow (w.heap.size + 1) fs).heap[w.heap.size]? = some (.cells cs 70 (0, 0))
  f : ((W.setRow w.heap.size cs).setRow (w.heap.size + 1) fs).heap[w.heap.size + 1]? = some (.cells fs 36 (0, 0))
  ext : Ext w ((W.setRow w.heap.size cs).setRow (w.heap.size + 1) fs)
theorem Res2A.fin {w W : World} (h : Res2A w W) (cs fs : Array Value) : End2A w W cs fs := by
  have hf := blk_setRow_ne h.f (by omega : w.heap.size + 1 ≠ w.heap.size) cs
  have hq := blk_setRow h.q cs
  exact ⟨h.q, hf, blk_setRow_ne hq (by omega : w.heap.size ≠ w.heap.size + 1) fs, blk_setRow hf fs, (h.ext.setRow (g := w.heap.size) (.inl (Nat.le_refl _)) cs).setRow (g := w.heap.size + 1) (.inl (by omega)) fs⟩
set_option maxRecDepth 8000 in
set_option maxHeartbeats 2000000 in
theorem refT_long {w : World} (bs : List UInt8) (h : 1048576 < bs.length) (h2 : bs.length ≤ 9223372036854775807) :
    Calls Tryz.prog 19 #[.string (str bs)] w (RefTPost w (zeroA, some (4, none))) := by
  have hR := Res2A.start w
  simp only [zeroAns] at hR
  have HR := Lib.hid hR
  clear hR
  have CP := fun w1 : World => plain_any 4 w1
  simp only [show ¬ ((4 : Int) = 0) by decide, if_false] at CP
  have hsz : (str bs).size = bs.length := str_size _
  have d1 : (1048576 : Int) < (str bs).size := by omega
  clear h hsz
  generalize str bs = s at *
  go_enter Tryz.func19, Tryz.ntmps19
  go_wp2_with fail
  refine (CP _).mono ?_
  rintro e w1 ⟨rfl, u⟩
  have hE := (HR.out.exts u).fin zeroAns.toArray #[.int .i64 4, .int .i64 (-1)]
  have HE := Lib.hid hE
  clear u hE
  go_wp2_with (first
    | (refine store_whole rfl 70 _ _ rfl w.heap.size rfl zeroAns rfl ans_size zeroAns 70 HE.out.zq rfl zeroAns_one ?_)
    | (refine store_whole rfl 36 _ _ rfl (w.heap.size + 1) rfl [.int .i64 4, .int .i64 (-1)] rfl fault_size2 [.int .i64 0, .int .i64 0] 36 HE.out.zf rfl (fault_one _ _) ?_))
  exact bodyPost_ret (v := .tuple #[.agg zeroAns.toArray, .agg #[.int .i64 4, .int .i64 (-1)]]) (resRT _ _ w.heap.size (w.heap.size + 1) _ _ rfl rfl HE.out.q rfl HE.out.f rfl) rfl ⟨none, 0, rfl, HashesAt.nil _ _, HE.out.ext⟩
set_option maxRecDepth 8000 in
set_option maxHeartbeats 2000000 in
theorem refT_no {w : World} (bs : List UInt8) (hl : bs.length ≤ 1048576) (h : bs = [] ∨ ∃ c l, bs = c :: l ∧ 5 < c.toNat) :
    Calls Tryz.prog 19 #[.string (str bs)] w (RefTPost w (zeroA, some (3, some 0))) := by
  have hR := Res2A.start w
  simp only [zeroAns] at hR
  have HR := Lib.hid hR
  clear hR
  have CP := fun w1 : World => placed_any 3 0 w1
  rcases h with rfl | ⟨c, l, rfl, hc⟩
  · go_enter Tryz.func19, Tryz.ntmps19
    go_wp2_with fail
    refine (CP _).mono ?_
    rintro e w1 ⟨rfl, u⟩
    have hE := (HR.out.exts u).fin zeroAns.toArray #[.int .i64 3, .int .i64 (0)]
    have HE := Lib.hid hE
    clear u hE
    go_wp2_with (first
      | (refine store_whole rfl 70 _ _ rfl w.heap.size rfl zeroAns rfl ans_size zeroAns 70 HE.out.zq rfl zeroAns_one ?_)
      | (refine store_whole rfl 36 _ _ rfl (w.heap.size + 1) rfl [.int .i64 3, .int .i64 (0)] rfl fault_size2 [.int .i64 0, .int .i64 0] 36 HE.out.zf rfl (fault_one _ _) ?_))
    exact bodyPost_ret (v := .tuple #[.agg zeroAns.toArray, .agg #[.int .i64 3, .int .i64 (0)]]) (resRT _ _ w.heap.size (w.heap.size + 1) _ _ rfl rfl HE.out.q rfl HE.out.f rfl) rfl ⟨none, 0, rfl, HashesAt.nil _ _, HE.out.ext⟩
  · have hl2 : l.length + 1 ≤ 1048576 := by simpa using hl
    have d1 : ¬ (1048576 : Int) < (l.length : Int) + 1 := by omega
    have d2 : (((l.length : Int) + 1) == 0) = false := by rw [beq_eq_false_iff_ne]; omega
    have dc : (5 : Int) < c.toNat := by omega
    clear hl hl2 hc
    go_enter Tryz.func19, Tryz.ntmps19
    go_wp2_with fail
    refine (CP _).mono ?_
    rintro e w1 ⟨rfl, u⟩
    have hE := (HR.out.exts u).fin zeroAns.toArray #[.int .i64 3, .int .i64 (0)]
    have HE := Lib.hid hE
    clear u hE
    go_wp2_with (first
      | (refine store_whole rfl 70 _ _ rfl w.heap.size rfl zeroAns rfl ans_size zeroAns 70 HE.out.zq rfl zeroAns_one ?_)
      | (refine store_whole rfl 36 _ _ rfl (w.heap.size + 1) rfl [.int .i64 3, .int .i64 (0)] rfl fault_size2 [.int .i64 0, .int .i64 0] 36 HE.out.zf rfl (fault_one _ _) ?_))
    exact bodyPost_ret (v := .tuple #[.agg zeroAns.toArray, .agg #[.int .i64 3, .int .i64 (0)]]) (resRT _ _ w.heap.size (w.heap.size + 1) _ _ rfl rfl HE.out.q rfl HE.out.f rfl) rfl ⟨none, 0, rfl, HashesAt.nil _ _, HE.out.ext⟩
/-- What lies in memory while the document's DecodeAnswer reads. -/
structure RTt (w W : World) (x : RdD) (A : AnsD) (v : Value) : Prop where
  res : Res2A w W
  qb : W.heap[w.heap.size + 2]? = some (.cells (ansCells A v) 70 (0, 0))
  rd : RefAt W (w.heap.size + 3) x
  own : W.ownsRow (w.heap.size + 4) 120 32 v A.hs.length (hashCells A.hs)
section
variable {w W W' : World} {x y : RdD} {A : AnsD} {v : Value}
theorem RTt.low (h : RTt w W x A v) : w.heap.size + 4 ≤ W.heap.size := by have := lt_of_blk h.rd.blk; omega
theorem RTt.upd {S : Nat → Prop} (h : RTt w W x A v) (u : Upd S W W') (hS : ∀ k, S k → w.heap.size + 4 ≤ k ∧ v.ownBlock ≠ some k) : RTt w W' x A v :=
  ⟨h.res.upd u (fun k hk => by have := (hS k hk).1; omega), u.blk h.qb (fun hk => by have := (hS _ hk).1; omega), h.rd.upd u (fun hk => by have := (hS _ hk).1; omega), ownsRow_upd h.own u (fun g hg hk => (hS g hk).2 hg)⟩
theorem RTt.ext (h : RTt w W x A v) (u : Ext W W') : RTt w W' x A v := h.upd u (fun _ hk => hk.elim)
theorem RTt.rdr (h : RTt w W x A v) (r : RefAt W' (w.heap.size + 3) y) (u : Upd (one (w.heap.size + 3)) W W') : RTt w W' y A v :=
  ⟨h.res.upd u (fun k hk => by have : k = _ := hk; omega), u.blk h.qb (fun hk => by have : w.heap.size + 2 = w.heap.size + 3 := hk; omega), r, ownsRow_upd h.own u (fun g hg hk => by have := (h.own.lt g hg).1; have : g = _ := hk; omega)⟩
theorem RTt.set (h : RTt w W x A v) (i : Nat) (u : Value) (A' : AnsD) (hl : A'.hs = A.hs) (hc : (ansCells A v).setIfInBounds i u = ansCells A' v) : RTt w (W.setCell ⟨w.heap.size + 2, i, none⟩ u) x A' v := by
  have U : Upd (one (w.heap.size + 2)) W (W.setCell ⟨w.heap.size + 2, i, none⟩ u) := (Upd.refl (one (w.heap.size + 2)) W).setCell (p := ⟨w.heap.size + 2, i, none⟩) (.inr rfl) _
  refine ⟨h.res.upd U (fun k hk => by have : k = _ := hk; omega), by rw [← hc]; exact blk_set h.qb i u, h.rd.upd U (fun hk => by have : w.heap.size + 3 = w.heap.size + 2 := hk; omega), ?_⟩
  rw [hl]
  exact ownsRow_upd h.own U (fun g hg hk => by have := (h.own.lt g hg).1; have : g = _ := hk; omega)
theorem RTt.after (h : RTt w W x A v) (hg : W.grownBy W' v.ownBlock) : W'.heap[w.heap.size + 2]? = some (.cells (ansCells A v) 70 (0, 0)) := by
  have U2 : Upd (fun k => v.ownBlock = some k) W W' := (Upd.refl _ W).grown hg (fun k hk => .inr hk)
  exact U2.blk h.qb (fun e => by have := (h.own.lt _ e).1; omega)
theorem RTt.app (h : RTt w W x A v) (t : List UInt8) {v' : Value} (ho : W'.ownsRow (w.heap.size + 4) 120 32 v' (A.hs.length + 1) (hashCells A.hs ++ t.map u8v)) (hg : W.grownBy W' v.ownBlock) :
    RTt w (W'.setCell ⟨w.heap.size + 2, 2, none⟩ v') x { A with hs := A.hs ++ [t] } v' := by
  have U2 : Upd (fun k => v.ownBlock = some k) W W' := (Upd.refl _ W).grown hg (fun k hk => .inr hk)
  have U3 : Upd (one (w.heap.size + 2)) W' (W'.setCell ⟨w.heap.size + 2, 2, none⟩ v') := (Upd.refl (one _) W').setCell (p := ⟨w.heap.size + 2, 2, none⟩) (.inr rfl) _
  refine ⟨(h.res.upd U2 (fun k hk => by have := (h.own.lt k hk).1; omega)).upd U3 (fun k hk => by have : k = _ := hk; omega), blk_set (h.after hg) 2 v', (h.rd.upd U2 (fun hk => by have := (h.own.lt _ hk).1; omega)).upd U3 (fun hk => by have : w.heap.size + 3 = w.heap.size + 2 := hk; omega), ?_⟩
  have e : hashCells (A.hs ++ [t]) = hashCells A.hs ++ t.map u8v := by simp [hashCells]
  show World.ownsRow _ _ _ _ _ (A.hs ++ [t]).length (hashCells (A.hs ++ [t]))
  rw [e, List.length_append]
  exact ownsRow_upd ho U3 (fun g hg hk => by have := (ho.lt g hg).1; have : g = _ := hk; omega)
theorem RTt.done (h : RTt w W x A v) (hl : ∀ t ∈ A.hs, t.length = 32) (cs fs : Array Value) : ∃ a cap, v = .slice a A.hs.length cap ∧ HashesAt ((W.setRow w.heap.size cs).setRow (w.heap.size + 1) fs) a A.hs := by
  have U : Upd (two w.heap.size (w.heap.size + 1)) W ((W.setRow w.heap.size cs).setRow (w.heap.size + 1) fs) := ((Upd.refl (two w.heap.size (w.heap.size + 1)) W).setRow (g := w.heap.size) (.inr (.inl rfl)) cs).setRow (g := w.heap.size + 1) (.inr (.inr rfl)) fs
  exact hashes_of_row (ownsRow_upd h.own U (fun g hg hk => by have := (h.own.lt g hg).1; rcases hk with e | e <;> omega)) hl
end
theorem RTt.start (w : World) (s : ByteArray) (hs : 1 ≤ s.size) (hs2 : s.size ≤ 9223372036854775807) (c : Nat) : RTt w ((((w.alloc (.cells zeroAns.toArray 70)).alloc (.cells #[.int .i64 0, .int .i64 0] 36)).alloc (.cells (ansCells ⟨c, 0, [], ⟨#[]⟩⟩ (.slice none 0 0)) 70)).alloc (.cells #[.string s, .int .i64 1, .int .i64 0, .int .i64 0] 107)) ⟨s, 1, none⟩ ⟨c, 0, [], ⟨#[]⟩⟩ (.slice none 0 0) := by
  have h := Res2A.start w
  have hq := blk_alloc ((w.alloc (.cells zeroAns.toArray 70)).alloc (.cells #[.int .i64 0, .int .i64 0] 36)) (.cells (ansCells ⟨c, 0, [], ⟨#[]⟩⟩ (.slice none 0 0)) 70)
  have hr := blk_alloc (((w.alloc (.cells zeroAns.toArray 70)).alloc (.cells #[.int .i64 0, .int .i64 0] 36)).alloc (.cells (ansCells ⟨c, 0, [], ⟨#[]⟩⟩ (.slice none 0 0)) 70)) (.cells #[.string s, .int .i64 1, .int .i64 0, .int .i64 0] 107)
  simp only [World.size_alloc] at hq hr
  exact ⟨h.exts (((Upd.refl none' _).alloc _).alloc _), blk_alloc_lt hq _, ⟨hr, hs, hs2, fun k p e => by cases e⟩, World.ownsRow_nil _ _ _ _⟩

theorem size_hashes : (Tryz.prog.info? 68).map (·.size) = some 1 := by kernel_rfl
theorem body_rhash : hasBody Tryz.prog 105 = true := by kernel_rfl
theorem RefAt.fin_codeT {w : World} {b : Nat} {x : RdD} (h : RefAt w b x) (y : Nat × Option Int) (hf : x.fin = some y) : 1 ≤ faultC (some y) := by
  obtain ⟨k, p⟩ := y
  show (1 : Int) ≤ (k : Int)
  unfold RdD.fin at hf
  split at hf
  · have : k = 3 := by simp only [Option.some.injEq, Prod.mk.injEq] at hf; exact hf.1.symm
    omega
  · have := h.code k p hf; omega
/-- How far the hashes are read: well so far, or a fault was met. -/
def TRel (s : ByteArray) (nn : Nat) (x0 x : RdD) (ls : List (List UInt8)) : Prop :=
  (decHs nn x0 = (ls ++ (decHs (nn - ls.length) x).1, (decHs (nn - ls.length) x).2) ∧ (ls.length < nn → x.f = none) ∧ (x.f = none → x.s = s ∧ 32 * ls.length ≤ x.pos)) ∨ (x.f ≠ none ∧ ∃ l2, decHs nn x0 = (l2, x))
theorem TRel.start {s : ByteArray} {nn : Nat} {x0 : RdD} (hs : x0.f = none → x0.s = s) (hn : x0.f ≠ none → nn = 0) : TRel s nn x0 x0 [] :=
  .inl ⟨by simp, fun hlt => Classical.byContradiction fun hf => by have := hn hf; simp at hlt; omega, fun hf => ⟨hs hf, by simp⟩⟩
theorem TRel.step {s : ByteArray} {nn : Nat} {x0 x : RdD} {ls : List (List UInt8)} (h : TRel s nn x0 x ls) (hk : ls.length < nn) (hf : x.f = none) : TRel s nn x0 x.hash.2 (ls ++ [x.hash.1]) := by
  rcases h with ⟨h1, _, h3⟩ | ⟨h1, _⟩
  · by_cases hf2 : x.hash.2.f = none
    · obtain ⟨p1, p2⟩ := hash_pos hf2
      obtain ⟨a1, a2⟩ := h3 hf
      exact .inl ⟨decHs_more h1 hk hf2, fun _ => hf2, fun _ => ⟨p2.trans a1, by rw [p1]; simp; omega⟩⟩
    · exact .inr ⟨hf2, ls, decHs_stop h1 hk hf2⟩
  · exact absurd hf h1
theorem TRel.stop {s : ByteArray} {nn : Nat} {x0 x : RdD} {ls : List (List UInt8)} (h : TRel s nn x0 x ls) (hle : ls.length ≤ nn) (hk : ls.length < nn → x.f ≠ none) : ∃ l2, decHs nn x0 = (l2, x) ∧ (x.f = none → l2 = ls) := by
  rcases h with ⟨h1, h2, _⟩ | ⟨h1, l2, h2⟩
  · have : ¬ ls.length < nn := fun hlt => hk hlt (h2 hlt)
    exact ⟨ls, decHs_end h1 (by omega), fun _ => rfl⟩
  · exact ⟨l2, h2, fun hf => absurd hf h1⟩
theorem TRel.small {s : ByteArray} {nn : Nat} {x0 x : RdD} {ls : List (List UInt8)} {w : World} {b : Nat} (h : TRel s nn x0 x ls) (hf : x.f = none) (r : RefAt w b x) (hs : s.size ≤ 1048576) : ls.length ≤ 32768 := by
  rcases h with ⟨_, _, h3⟩ | ⟨h1, _⟩
  · obtain ⟨a1, a2⟩ := h3 hf
    have := r.pos
    rw [a1] at this
    omega
  · exact absurd hf h1

set_option maxRecDepth 8000 in
set_option maxHeartbeats 8000000 in
theorem refT_code {w : World} (bs : List UInt8) (hl : bs.length ≤ 1048576) (c : UInt8) (l : List UInt8) (hbs : bs = c :: l) (hc : c.toNat ≤ 5) (h0 : c.toNat ≠ 0)
    (r : AnsD × EV) (hr0 : RdD.fin ⟨str bs, 1, none⟩ = none → r = (⟨c.toNat, 0, [], ⟨#[]⟩⟩, none)) (hr1 : RdD.fin ⟨str bs, 1, none⟩ ≠ none → r = (zeroA, RdD.fin ⟨str bs, 1, none⟩)) :
    Calls Tryz.prog 19 #[.string (str bs)] w (RefTPost w r) := by
  subst hbs
  have hl2 : l.length + 1 ≤ 1048576 := by simpa using hl
  have d1 : ¬ (1048576 : Int) < (l.length : Int) + 1 := by omega
  have d2 : (((l.length : Int) + 1) == 0) = false := by rw [beq_eq_false_iff_ne]; omega
  have dc : ¬ (5 : Int) < c.toNat := by omega
  have d3 : (((c.toNat : Int)) == 0) = false := by rw [beq_eq_false_iff_ne]; omega
  have d4 : ¬ (c.toNat : Int) = 0 := by omega
  have hst := RTt.start w (str (c :: l)) (by rw [str_size, List.length_cons]; omega) (by rw [str_size, List.length_cons]; omega) c.toNat
  simp only [zeroAns, ansCells] at hst
  have HD := Lib.hid hst
  obtain ⟨xt, hxt⟩ : ∃ x : RdD, (⟨str (c :: l), 1, none⟩ : RdD) = x := ⟨_, rfl⟩
  rw [hxt] at HD hr0 hr1
  have HFR0 := Lib.hid hr0
  have HFR1 := Lib.hid hr1
  clear hst hr0 hr1 hxt hl hl2 hc h0
  go_enter Tryz.func19, Tryz.ntmps19
  go_wp2_with fail
  have CE := end_r HD.out.rd
  go_wp2_with fail
  refine CE.mono ?_
  rintro e w2 ⟨rfl, u⟩
  have HD4 := Lib.hid (HD.out.ext u)
  clear u CE HD
  cases hfin : RdD.fin xt with
  | none =>
    have HRES := Lib.hid (show r = (⟨c.toNat, 0, [], ⟨#[]⟩⟩, none) from HFR0.out hfin)
    have hFB := blk_alloc w2 (.cells #[.int .i64 0, .int .i64 0] 36)
    have HX5 := Lib.hid ((Upd.refl none' w2).alloc (.cells #[.int .i64 0, .int .i64 0] 36))
    have HNE := Lib.hid (show w2.heap.size ≠ w.heap.size by have := HD4.out.low; omega)
    have HF12 := Lib.hid hFB
    have HD5 := Lib.hid (HD4.out.ext HX5.out)
    have q0 : faultC (none : EV) = 0 := rfl
    have q1 : faultA (none : EV) = 0 := rfl
    clear hfin hFB
    go_wp2_with fail
    generalize hWW : w2.alloc (.cells #[.int .i64 0, .int .i64 0] 36) = WW at *
    generalize hbF : w2.heap.size = bF at *
    refine wp_region_any (by kernel_rfl) ?_
    change wpAny _ _ _ _ _ _ _ (World.drew _)
    have HDW := Lib.hid ((Upd.refl none' WW).drew)
    generalize WW.drew = wd at HDW ⊢
    have HRD := Lib.hid (HD5.out.ext HDW.out)
    have HFB := Lib.hid (Ext.blk HDW.out HF12.out)
    have HE := Lib.hid (HRD.out.res.fin #[.int .u8 c.toNat, .int .u64 0, .slice none 0 0, .string ⟨#[]⟩] #[.int .i64 0, .int .i64 0])
    have HFS := Lib.hid (blk_setRow_ne HFB.out HNE.out #[.int .u8 c.toNat, .int .u64 0, .slice none 0 0, .string ⟨#[]⟩])
    clear HDW
    refine any2 0 1 (by kernel_rfl) ?_ ?_
    · refine op_loadAgg rfl (by rfl) 70 _ rfl (w.heap.size + 2) 0 rfl [.int .u8 c.toNat, .int .u64 0, .slice none 0 0, .string ⟨#[]⟩] Tryz.underlying70 rfl ans_size (fun j u hu => by rw [cell_of_blk HRD.out.qb]; simpa [ansCells] using hu) ?_
      refine any_norm (by go_simp; all_goals exact rfl) ?_
      refine any2 1 2 (by kernel_rfl) ?_ ?_
      · refine op_loadAgg rfl (by rfl) 36 _ rfl bF 0 rfl [.int .i64 0, .int .i64 0] Tryz.underlying36 rfl fault_size2 (fun j u hu => by rw [cell_of_blk HFB.out, Nat.zero_add, List.getElem?_toArray]; exact hu) ?_
        refine any_norm (by go_simp; all_goals exact rfl) ?_
        refine any1 2 (by kernel_rfl) ?_
        refine op_storeAgg rfl (by rfl) 70 _ _ rfl w.heap.size rfl [.int .u8 c.toNat, .int .u64 0, .slice none 0 0, .string ⟨#[]⟩] rfl ans_size zeroAns 70 HE.out.zq rfl (ans_one _ _ _ _ rfl) ?_
        refine any_norm (by go_simp; all_goals exact rfl) ?_
        refine any1 3 (by kernel_rfl) ?_
        refine op_storeAgg rfl (by rfl) 36 _ _ rfl (w.heap.size + 1) rfl [.int .i64 0, .int .i64 0] rfl fault_size2 [.int .i64 0, .int .i64 0] 36 HE.out.zf rfl (fault_one _ _) ?_
        refine any_norm (by go_simp; all_goals exact rfl) ?_
        refine wpAny_done (by kernel_rfl) ?_ _
        go_wp2_with fail
        exact bodyPost_ret (v := .tuple #[.agg #[.int .u8 c.toNat, .int .u64 0, .slice none 0 0, .string ⟨#[]⟩], .agg #[.int .i64 0, .int .i64 0]]) (resRT _ _ w.heap.size (w.heap.size + 1) _ _ rfl rfl HE.out.q rfl HE.out.f rfl) rfl ⟨none, 0, by rw [HRES.out]; rfl, by rw [HRES.out]; exact HashesAt.nil _ _, HE.out.ext⟩
      · refine op_storeAgg rfl (by rfl) 70 _ _ rfl w.heap.size rfl [.int .u8 c.toNat, .int .u64 0, .slice none 0 0, .string ⟨#[]⟩] rfl ans_size zeroAns 70 HE.out.zq rfl (ans_one _ _ _ _ rfl) ?_
        refine any_norm (by go_simp; all_goals exact rfl) ?_
        refine any1 1 (by kernel_rfl) ?_
        refine op_loadAgg rfl (by rfl) 36 _ rfl bF 0 rfl [.int .i64 0, .int .i64 0] Tryz.underlying36 rfl fault_size2 (fun j u hu => by rw [cell_of_blk HFS.out, Nat.zero_add, List.getElem?_toArray]; exact hu) ?_
        refine any_norm (by go_simp; all_goals exact rfl) ?_
        refine any1 3 (by kernel_rfl) ?_
        refine op_storeAgg rfl (by rfl) 36 _ _ rfl (w.heap.size + 1) rfl [.int .i64 0, .int .i64 0] rfl fault_size2 [.int .i64 0, .int .i64 0] 36 HE.out.zf rfl (fault_one _ _) ?_
        refine any_norm (by go_simp; all_goals exact rfl) ?_
        refine wpAny_done (by kernel_rfl) ?_ _
        go_wp2_with fail
        exact bodyPost_ret (v := .tuple #[.agg #[.int .u8 c.toNat, .int .u64 0, .slice none 0 0, .string ⟨#[]⟩], .agg #[.int .i64 0, .int .i64 0]]) (resRT _ _ w.heap.size (w.heap.size + 1) _ _ rfl rfl HE.out.q rfl HE.out.f rfl) rfl ⟨none, 0, by rw [HRES.out]; rfl, by rw [HRES.out]; exact HashesAt.nil _ _, HE.out.ext⟩
    · refine op_loadAgg rfl (by rfl) 36 _ rfl bF 0 rfl [.int .i64 0, .int .i64 0] Tryz.underlying36 rfl fault_size2 (fun j u hu => by rw [cell_of_blk HFB.out, Nat.zero_add, List.getElem?_toArray]; exact hu) ?_
      refine any_norm (by go_simp; all_goals exact rfl) ?_
      refine any1 0 (by kernel_rfl) ?_
      refine op_loadAgg rfl (by rfl) 70 _ rfl (w.heap.size + 2) 0 rfl [.int .u8 c.toNat, .int .u64 0, .slice none 0 0, .string ⟨#[]⟩] Tryz.underlying70 rfl ans_size (fun j u hu => by rw [cell_of_blk HRD.out.qb]; simpa [ansCells] using hu) ?_
      refine any_norm (by go_simp; all_goals exact rfl) ?_
      refine any1 2 (by kernel_rfl) ?_
      refine op_storeAgg rfl (by rfl) 70 _ _ rfl w.heap.size rfl [.int .u8 c.toNat, .int .u64 0, .slice none 0 0, .string ⟨#[]⟩] rfl ans_size zeroAns 70 HE.out.zq rfl (ans_one _ _ _ _ rfl) ?_
      refine any_norm (by go_simp; all_goals exact rfl) ?_
      refine any1 3 (by kernel_rfl) ?_
      refine op_storeAgg rfl (by rfl) 36 _ _ rfl (w.heap.size + 1) rfl [.int .i64 0, .int .i64 0] rfl fault_size2 [.int .i64 0, .int .i64 0] 36 HE.out.zf rfl (fault_one _ _) ?_
      refine any_norm (by go_simp; all_goals exact rfl) ?_
      refine wpAny_done (by kernel_rfl) ?_ _
      go_wp2_with fail
      exact bodyPost_ret (v := .tuple #[.agg #[.int .u8 c.toNat, .int .u64 0, .slice none 0 0, .string ⟨#[]⟩], .agg #[.int .i64 0, .int .i64 0]]) (resRT _ _ w.heap.size (w.heap.size + 1) _ _ rfl rfl HE.out.q rfl HE.out.f rfl) rfl ⟨none, 0, by rw [HRES.out]; rfl, by rw [HRES.out]; exact HashesAt.nil _ _, HE.out.ext⟩
  | some y =>
    have HRES := Lib.hid (show r = (zeroA, some y) from (HFR1.out (by rw [hfin]; simp)).trans (by rw [hfin]))
    have hcode := HD4.out.rd.fin_codeT y hfin
    have hk1 : ¬ faultC (some y) = 0 := by omega
    have HEF := Lib.hid (show efV (some y) = .agg #[.int .i64 (faultC (some y)), .int .i64 (faultA (some y))] by rw [← efC_is, ← efA_is])
    have hFB := blk_alloc w2 (.cells #[.int .i64 (faultC (some y)), .int .i64 (faultA (some y))] 36)
    have HX5 := Lib.hid ((Upd.refl none' w2).alloc (.cells #[.int .i64 (faultC (some y)), .int .i64 (faultA (some y))] 36))
    have HNE := Lib.hid (show w2.heap.size ≠ w.heap.size by have := HD4.out.low; omega)
    have HF12 := Lib.hid hFB
    have HD5 := Lib.hid (HD4.out.ext HX5.out)
    clear hfin hFB hcode
    go_wp2_with fail
    generalize hWW : w2.alloc (.cells #[.int .i64 (faultC (some y)), .int .i64 (faultA (some y))] 36) = WW at *
    generalize hbF : w2.heap.size = bF at *
    refine wp_region_any (by kernel_rfl) ?_
    change wpAny _ _ _ _ _ _ _ (World.drew _)
    have HDW := Lib.hid ((Upd.refl none' WW).drew)
    generalize WW.drew = wd at HDW ⊢
    have HRD := Lib.hid (HD5.out.ext HDW.out)
    have HFB := Lib.hid (Ext.blk HDW.out HF12.out)
    have HE := Lib.hid (HRD.out.res.fin zeroAns.toArray #[.int .i64 (faultC (some y)), .int .i64 (faultA (some y))])
    have HFS := Lib.hid (blk_setRow_ne HFB.out HNE.out zeroAns.toArray)
    clear HDW
    (refine wpAny_take (i := 0) (v := ?_) rfl (by kernel_rfl) (by kernel_rfl) (by kernel_rfl) (fun _ _ _ h => h) (Or.inl ⟨by rfl, ?_⟩) ?_; rotate_left; (· (intro w; go_simp; all_goals (with_reducible rfl))); refine any_norm (by go_simp; all_goals exact rfl) ?_)
    refine any2 1 2 (by kernel_rfl) ?_ ?_
    · refine op_loadAgg rfl (by rfl) 36 _ rfl bF 0 rfl [.int .i64 (faultC (some y)), .int .i64 (faultA (some y))] Tryz.underlying36 rfl fault_size2 (fun j u hu => by rw [cell_of_blk HFB.out, Nat.zero_add, List.getElem?_toArray]; exact hu) ?_
      refine any_norm (by go_simp; all_goals exact rfl) ?_
      refine any1 2 (by kernel_rfl) ?_
      refine op_storeAgg rfl (by rfl) 70 _ _ rfl w.heap.size rfl zeroAns rfl ans_size zeroAns 70 HE.out.zq rfl zeroAns_one ?_
      refine any_norm (by go_simp; all_goals exact rfl) ?_
      refine any1 3 (by kernel_rfl) ?_
      refine op_storeAgg rfl (by rfl) 36 _ _ rfl (w.heap.size + 1) rfl [.int .i64 (faultC (some y)), .int .i64 (faultA (some y))] rfl fault_size2 [.int .i64 0, .int .i64 0] 36 HE.out.zf rfl (fault_one _ _) ?_
      refine any_norm (by go_simp; all_goals exact rfl) ?_
      refine wpAny_done (by kernel_rfl) ?_ _
      go_wp2_with fail
      exact bodyPost_ret (v := .tuple #[.agg zeroAns.toArray, .agg #[.int .i64 (faultC (some y)), .int .i64 (faultA (some y))]]) (resRT _ _ w.heap.size (w.heap.size + 1) _ _ rfl rfl HE.out.q rfl HE.out.f rfl) rfl ⟨none, 0, by rw [HRES.out, HEF.out]; rfl, by rw [HRES.out]; exact HashesAt.nil _ _, HE.out.ext⟩
    · refine op_storeAgg rfl (by rfl) 70 _ _ rfl w.heap.size rfl zeroAns rfl ans_size zeroAns 70 HE.out.zq rfl zeroAns_one ?_
      refine any_norm (by go_simp; all_goals exact rfl) ?_
      refine any1 1 (by kernel_rfl) ?_
      refine op_loadAgg rfl (by rfl) 36 _ rfl bF 0 rfl [.int .i64 (faultC (some y)), .int .i64 (faultA (some y))] Tryz.underlying36 rfl fault_size2 (fun j u hu => by rw [cell_of_blk HFS.out, Nat.zero_add, List.getElem?_toArray]; exact hu) ?_
      refine any_norm (by go_simp; all_goals exact rfl) ?_
      refine any1 3 (by kernel_rfl) ?_
      refine op_storeAgg rfl (by rfl) 36 _ _ rfl (w.heap.size + 1) rfl [.int .i64 (faultC (some y)), .int .i64 (faultA (some y))] rfl fault_size2 [.int .i64 0, .int .i64 0] 36 HE.out.zf rfl (fault_one _ _) ?_
      refine any_norm (by go_simp; all_goals exact rfl) ?_
      refine wpAny_done (by kernel_rfl) ?_ _
      go_wp2_with fail
      exact bodyPost_ret (v := .tuple #[.agg zeroAns.toArray, .agg #[.int .i64 (faultC (some y)), .int .i64 (faultA (some y))]]) (resRT _ _ w.heap.size (w.heap.size + 1) _ _ rfl rfl HE.out.q rfl HE.out.f rfl) rfl ⟨none, 0, by rw [HRES.out, HEF.out]; rfl, by rw [HRES.out]; exact HashesAt.nil _ _, HE.out.ext⟩

set_option maxRecDepth 8000 in
set_option maxHeartbeats 8000000 in
theorem refT_zero {w : World} (bs : List UInt8) (hl : bs.length ≤ 1048576) (c : UInt8) (l : List UInt8) (hbs : bs = c :: l) (h0 : c.toNat = 0) (size nn : Nat) (x1 x0 : RdD)
    (hv1 : RdD.var ⟨str bs, 1, none⟩ = (size, x1)) (hv2 : x1.var = (nn, x0)) (r : AnsD × EV)
    (HDEC : Hid (∀ ls xx, decHs nn x0 = (ls, xx) → r = if RdD.fin (xx.text 65536).2 = none then (⟨0, size, ls, str (xx.text 65536).1⟩, none) else (zeroA, RdD.fin (xx.text 65536).2))) :
    Calls Tryz.prog 19 #[.string (str bs)] w (RefTPost w r) := by
  have hlz : (str bs).size ≤ 1048576 := by rw [str_size]; exact hl
  subst hbs
  have hl2 : l.length + 1 ≤ 1048576 := by simpa using hl
  have d1 : ¬ (1048576 : Int) < (l.length : Int) + 1 := by omega
  have d2 : (((l.length : Int) + 1) == 0) = false := by rw [beq_eq_false_iff_ne]; omega
  have dc : (c.toNat : Int) = 0 := by omega
  have hst := RTt.start w (str (c :: l)) (by rw [str_size, List.length_cons]; omega) (by rw [str_size, List.length_cons]; omega) c.toNat
  rw [h0] at hst
  simp only [zeroAns, ansCells] at hst
  have HST := Lib.hid hst
  have hn64 : nn < 18446744073709551616 := by have := var_lt x1; rw [hv2] at this; exact this
  have hx0s : x0.f = none → x0.s = str (c :: l) := fun hf => by
    have a1 := var_le x1
    have a2 := var_le ⟨str (c :: l), 1, none⟩
    rw [hv2] at a1
    rw [hv1] at a2
    exact a1.s.trans a2.s
  have hnf : x0.f ≠ none → nn = 0 := fun hf => by
    have e := hv2
    unfold RdD.var at e
    split at e
    · rename_i hy
      split at e
      · rename_i a b hab
        obtain ⟨e1, e2⟩ := Prod.mk.inj e
        rw [← e2] at hf
        exact absurd hy hf
      · exact (Prod.mk.inj e).1.symm
    · exact (Prod.mk.inj e).1.symm
  have HTS := Lib.hid (TRel.start hx0s hnf)
  have HSZ1 := Lib.hid hlz
  have HV1 := Lib.hid hv1
  have HV2 := Lib.hid hv2
  have HC0 := Lib.hid (show c.toNat = 0 from h0)
  clear hst hx0s hnf hlz hl hl2 hv1 hv2
  go_enter Tryz.func19, Tryz.ntmps19
  go_wp2_with fail
  have CV := var_r HST.out.rd
  rw [show VarPost (w.heap.size + 3) ⟨str (c :: l), 1, none⟩ = VarPost (w.heap.size + 3) ⟨str (c :: l), 1, none⟩ from rfl] at CV
  go_wp2_with fail
  refine CV.mono ?_
  rintro e w3 ⟨rfl, R, u⟩
  rw [HV1.out] at R ⊢
  have HA1 := HST.out.rdr R u
  have c1 := cell_of_blk HA1.qb 1
  simp only [ansCells, List.size_toArray, List.getElem?_toArray, List.getElem?_cons_zero, List.getElem?_cons_succ] at c1
  have f1 := free_of_blk HA1.qb 1
  have HA := Lib.hid (HA1.set 1 (.int .u64 size) ⟨0, size, [], ⟨#[]⟩⟩ rfl rfl)
  clear HA1 R u CV HST
  have CV := var_r HA.out.rd
  go_wp2_with fail
  refine CV.mono ?_
  rintro e w4 ⟨rfl, R, u⟩
  rw [HV2.out] at R ⊢
  have HA := Lib.hid (HA.out.rdr R u)
  clear R u CV c1 f1 HV1 HV2
  go_wp2_with fail
  go_loopw [7] (fun iv wr => ∃ (k : Nat) (ls : List (List UInt8)) (x : RdD) (v : Value), iv = .int .u64 k ∧ k ≤ nn ∧ ls.length = k ∧ RTt w wr x ⟨0, size, ls, ⟨#[]⟩⟩ v ∧ (∀ t ∈ ls, t.length = 32) ∧ TRel (str (c :: l)) nn x0 x ls) (fun iv _ => nn - (RowKit.intOf iv).toNat)
  case atStart => exact ⟨0, [], x0, .slice none 0 0, rfl, Nat.zero_le _, rfl, HA.out, (fun t h => by cases h), HTS.out⟩
  case round =>
    obtain ⟨k, ls, x, v, rfl, hk1, hlk, hd, hls, htr⟩ := hrel
    have HD := Lib.hid hd
    have HLK := Lib.hid (show ls.length = k ∧ k ≤ nn from ⟨hlk, hk1⟩)
    have HLS := Lib.hid hls
    have HTR := Lib.hid htr
    have r2 := cell_of_blk hd.rd.blk 2
    have r3 := cell_of_blk hd.rd.blk 3
    simp only [refRow, List.size_toArray, List.getElem?_toArray, List.getElem?_cons_zero, List.getElem?_cons_succ] at r2 r3
    by_cases hlt : k < nn
    · have hlti : (k : Int) < nn := by omega
      by_cases hf : x.f = none
      · have q0 : faultC x.f = 0 := by rw [hf]; rfl
        have q1 : faultA x.f = 0 := by rw [hf]; rfl
        have HPZ := Lib.hid (htr.small hf hd.rd HSZ1.out)
        have HM := Lib.hid (show ls.length + 1 ≤ maxLen ∧ (ls.length + 1) * 32 ≤ 140737488355328 by have := HPZ.out; unfold maxLen; omega)
        have HNX := Lib.hid (htr.step (by omega) hf)
        have HHL := Lib.hid (hash_len x)
        have HH0 := Lib.hid (hash_size32 x.hash.1 (hash_len x))
        have H1 := Lib.hid (hash_one x.hash.1)
        have HLN := Lib.hid (show (x.hash.1.map u8v).length = 1 * 32 by rw [List.length_map, hash_len])
        have HP3 := Lib.hid (show 0 < (x.hash.1.map u8v).length ∧ (x.hash.1.map u8v).length ≤ 16777216 by rw [List.length_map, hash_len]; decide)
        have HLN2 : Hid (∀ t ∈ ls ++ [x.hash.1], t.length = 32) := Lib.hid (fun t ht => by
          rcases List.mem_append.1 ht with h | h
          · exact HLS.out t h
          · rw [List.mem_singleton.1 h]; exact HHL.out)
        obtain ⟨i0, hi0, hz0, hz1, hz2⟩ := info_parts info_hash
        clear hd hls htr hlk hf
        go_wp2_with fail
        refine wp_region_any (by kernel_rfl) ?_
        change wpAny _ _ _ _ _ _ _ (World.drew _)
        have HQ := Lib.hid (HD.out.ext ((Upd.refl none' wr).drew))
        generalize wr.drew = wd at HQ ⊢
        (refine wpAny_take (i := 0) (v := ?_) rfl (by kernel_rfl) (by kernel_rfl) (by kernel_rfl) (fun _ _ _ h => h) (Or.inl ⟨by rfl, ?_⟩) ?_; rotate_left; (· (intro w; go_simp; all_goals (with_reducible rfl))); refine any_norm (by go_simp; all_goals exact rfl) ?_)
        (refine wpAny_take (i := 2) (v := ?_) rfl (by kernel_rfl) (by kernel_rfl) (by kernel_rfl) (fun _ _ _ h => h) (Or.inl ⟨by rfl, ?_⟩) ?_; rotate_left; (· (intro w; go_simp; all_goals (with_reducible rfl))); refine any_norm (by go_simp; all_goals exact rfl) ?_)
        refine any2 1 3 (by kernel_rfl) ?_ ?_
        · have cl := cell_of_blk HQ.out.qb 2
          refine op_load1 rfl (by rfl) rfl ⟨w.heap.size + 2, 2, none⟩ v rfl Tryz.underlying68 rfl (by rw [cl]; rfl) ?_
          clear cl
          refine any_norm (by go_simp; all_goals exact rfl) ?_
          refine any1 3 (by kernel_rfl) ?_
          refine op_callf rfl (by rfl) 105 [.tmp 53] _ rfl body_rhash [.pointer (some ⟨w.heap.size + 3, 0, none⟩)] rfl (R := fun u w' => u = .agg (x.hash.1.map u8v).toArray ∧ RefAt w' (w.heap.size + 3) x.hash.2 ∧ Upd (one (w.heap.size + 3)) _ w') ((hash_r HQ.out.rd).mono (by rintro e w' ⟨rfl, r, u⟩; exact ⟨_, rfl, rfl, r, u⟩)) ?_
          rintro _ w2 ⟨rfl, r, u⟩
          replace HQ := Lib.hid (HQ.out.rdr r u)
          clear r u
          refine any_norm (by go_simp; all_goals exact rfl) ?_
          refine any1 4 (by kernel_rfl) ?_
          rename World => wb
          refine op_buildOneA rfl (by rfl) 68 120 _ rfl (x.hash.1.map u8v) rfl Tryz.underlying68 HH0.out zero_hash HP3.out.1 HP3.out.2 ?_
          have hb4 := blk_alloc wb (.cells (x.hash.1.map u8v).toArray 120)
          have HN4 := Lib.hid (fun (j : Nat) (u : Value) (hu : (x.hash.1.map u8v)[j]? = some u) => show World.cell? _ ((⟨wb.heap.size, 0, none⟩ : Addr).add j) = some u from by rw [show (⟨wb.heap.size, 0, none⟩ : Addr).add j = ⟨wb.heap.size, j, none⟩ from by unfold Addr.add; split <;> simp_all, cell_of_blk hb4]; simpa using hu)
          replace HQ := Lib.hid (HQ.out.ext ((Upd.refl none' wb).alloc (.cells (x.hash.1.map u8v).toArray 120)))
          clear hb4
          refine any_norm (by go_simp; all_goals exact rfl) ?_
          refine any1 5 (by kernel_rfl) ?_
          refine op_app1 rfl (by rfl) (.tmp 52) (.tmp 55) 68 rfl (w.heap.size + 4) 120 i0 _ 32 32 Tryz.underlying68 hi0 hz0 hz1 hz2 rfl (by decide) v _ _ rfl HQ.out.own ⟨wb.heap.size, 0, none⟩ 1 1 (x.hash.1.map u8v) rfl HLN.out HN4.out H1.out HM.out.1 HM.out.2 HQ.out.low ?_
          intro v' w7 ho hg hbl
          have hb7 := HQ.out.after hg
          have c7 := cell_of_blk hb7 2
          have f7 := free_of_blk hb7 2
          have HA5 := Lib.hid (HQ.out.app x.hash.1 ho hg)
          have HO5 := Lib.hid (own_one ho)
          have HC5 := Lib.hid (own_cells ho)
          clear ho hg hbl hb7
          refine any_norm (by go_simp; all_goals exact rfl) ?_
          (refine wpAny_take (i := 6) (v := ?_) rfl (by kernel_rfl) (by kernel_rfl) (by kernel_rfl) (fun _ _ _ h => h) (Or.inl ⟨by rfl, ?_⟩) ?_; rotate_left; (· (intro w; go_simp; all_goals (with_reducible rfl))); refine any_norm (by go_simp; all_goals exact rfl) ?_)
          refine any1 7 (by kernel_rfl) ?_
          refine op_store1 rfl (by rfl) 68 _ _ rfl ⟨w.heap.size + 2, 2, none⟩ rfl v' rfl HC5.out HO5.out size_hashes v (by rw [c7]; rfl) f7 ?_
          clear c7 f7
          refine any_norm (by go_simp; all_goals exact rfl) ?_
          refine wpAny_done (by kernel_rfl) ?_ _
          go_wp2_with fail
          exact ⟨⟨k + 1, ls ++ [x.hash.1], _, v', by simp, by omega, by simp only [List.length_append, List.length_cons, List.length_nil]; have := HLK.out; omega, HA5.out, HLN2.out, HNX.out⟩, by simp [RowKit.intOf] <;> omega⟩
        · refine op_callf rfl (by rfl) 105 [.tmp 53] _ rfl body_rhash [.pointer (some ⟨w.heap.size + 3, 0, none⟩)] rfl (R := fun u w' => u = .agg (x.hash.1.map u8v).toArray ∧ RefAt w' (w.heap.size + 3) x.hash.2 ∧ Upd (one (w.heap.size + 3)) _ w') ((hash_r HQ.out.rd).mono (by rintro e w' ⟨rfl, r, u⟩; exact ⟨_, rfl, rfl, r, u⟩)) ?_
          rintro _ w2 ⟨rfl, r, u⟩
          replace HQ := Lib.hid (HQ.out.rdr r u)
          clear r u
          refine any_norm (by go_simp; all_goals exact rfl) ?_
          refine any2 1 4 (by kernel_rfl) ?_ ?_
          · have cl := cell_of_blk HQ.out.qb 2
            refine op_load1 rfl (by rfl) rfl ⟨w.heap.size + 2, 2, none⟩ v rfl Tryz.underlying68 rfl (by rw [cl]; rfl) ?_
            clear cl
            refine any_norm (by go_simp; all_goals exact rfl) ?_
            refine any1 4 (by kernel_rfl) ?_
            rename World => wb
            refine op_buildOneA rfl (by rfl) 68 120 _ rfl (x.hash.1.map u8v) rfl Tryz.underlying68 HH0.out zero_hash HP3.out.1 HP3.out.2 ?_
            have hb4 := blk_alloc wb (.cells (x.hash.1.map u8v).toArray 120)
            have HN4 := Lib.hid (fun (j : Nat) (u : Value) (hu : (x.hash.1.map u8v)[j]? = some u) => show World.cell? _ ((⟨wb.heap.size, 0, none⟩ : Addr).add j) = some u from by rw [show (⟨wb.heap.size, 0, none⟩ : Addr).add j = ⟨wb.heap.size, j, none⟩ from by unfold Addr.add; split <;> simp_all, cell_of_blk hb4]; simpa using hu)
            replace HQ := Lib.hid (HQ.out.ext ((Upd.refl none' wb).alloc (.cells (x.hash.1.map u8v).toArray 120)))
            clear hb4
            refine any_norm (by go_simp; all_goals exact rfl) ?_
            refine any1 5 (by kernel_rfl) ?_
            refine op_app1 rfl (by rfl) (.tmp 52) (.tmp 55) 68 rfl (w.heap.size + 4) 120 i0 _ 32 32 Tryz.underlying68 hi0 hz0 hz1 hz2 rfl (by decide) v _ _ rfl HQ.out.own ⟨wb.heap.size, 0, none⟩ 1 1 (x.hash.1.map u8v) rfl HLN.out HN4.out H1.out HM.out.1 HM.out.2 HQ.out.low ?_
            intro v' w7 ho hg hbl
            have hb7 := HQ.out.after hg
            have c7 := cell_of_blk hb7 2
            have f7 := free_of_blk hb7 2
            have HA5 := Lib.hid (HQ.out.app x.hash.1 ho hg)
            have HO5 := Lib.hid (own_one ho)
            have HC5 := Lib.hid (own_cells ho)
            clear ho hg hbl hb7
            refine any_norm (by go_simp; all_goals exact rfl) ?_
            (refine wpAny_take (i := 6) (v := ?_) rfl (by kernel_rfl) (by kernel_rfl) (by kernel_rfl) (fun _ _ _ h => h) (Or.inl ⟨by rfl, ?_⟩) ?_; rotate_left; (· (intro w; go_simp; all_goals (with_reducible rfl))); refine any_norm (by go_simp; all_goals exact rfl) ?_)
            refine any1 7 (by kernel_rfl) ?_
            refine op_store1 rfl (by rfl) 68 _ _ rfl ⟨w.heap.size + 2, 2, none⟩ rfl v' rfl HC5.out HO5.out size_hashes v (by rw [c7]; rfl) f7 ?_
            clear c7 f7
            refine any_norm (by go_simp; all_goals exact rfl) ?_
            refine wpAny_done (by kernel_rfl) ?_ _
            go_wp2_with fail
            exact ⟨⟨k + 1, ls ++ [x.hash.1], _, v', by simp, by omega, by simp only [List.length_append, List.length_cons, List.length_nil]; have := HLK.out; omega, HA5.out, HLN2.out, HNX.out⟩, by simp [RowKit.intOf] <;> omega⟩
          · rename World => wb
            refine op_buildOneA rfl (by rfl) 68 120 _ rfl (x.hash.1.map u8v) rfl Tryz.underlying68 HH0.out zero_hash HP3.out.1 HP3.out.2 ?_
            have hb4 := blk_alloc wb (.cells (x.hash.1.map u8v).toArray 120)
            have HN4 := Lib.hid (fun (j : Nat) (u : Value) (hu : (x.hash.1.map u8v)[j]? = some u) => show World.cell? _ ((⟨wb.heap.size, 0, none⟩ : Addr).add j) = some u from by rw [show (⟨wb.heap.size, 0, none⟩ : Addr).add j = ⟨wb.heap.size, j, none⟩ from by unfold Addr.add; split <;> simp_all, cell_of_blk hb4]; simpa using hu)
            replace HQ := Lib.hid (HQ.out.ext ((Upd.refl none' wb).alloc (.cells (x.hash.1.map u8v).toArray 120)))
            clear hb4
            refine any_norm (by go_simp; all_goals exact rfl) ?_
            refine any1 1 (by kernel_rfl) ?_
            have cl := cell_of_blk HQ.out.qb 2
            refine op_load1 rfl (by rfl) rfl ⟨w.heap.size + 2, 2, none⟩ v rfl Tryz.underlying68 rfl (by rw [cl]; rfl) ?_
            clear cl
            refine any_norm (by go_simp; all_goals exact rfl) ?_
            refine any1 5 (by kernel_rfl) ?_
            refine op_app1 rfl (by rfl) (.tmp 52) (.tmp 55) 68 rfl (w.heap.size + 4) 120 i0 _ 32 32 Tryz.underlying68 hi0 hz0 hz1 hz2 rfl (by decide) v _ _ rfl HQ.out.own ⟨wb.heap.size, 0, none⟩ 1 1 (x.hash.1.map u8v) rfl HLN.out HN4.out H1.out HM.out.1 HM.out.2 HQ.out.low ?_
            intro v' w7 ho hg hbl
            have hb7 := HQ.out.after hg
            have c7 := cell_of_blk hb7 2
            have f7 := free_of_blk hb7 2
            have HA5 := Lib.hid (HQ.out.app x.hash.1 ho hg)
            have HO5 := Lib.hid (own_one ho)
            have HC5 := Lib.hid (own_cells ho)
            clear ho hg hbl hb7
            refine any_norm (by go_simp; all_goals exact rfl) ?_
            (refine wpAny_take (i := 6) (v := ?_) rfl (by kernel_rfl) (by kernel_rfl) (by kernel_rfl) (fun _ _ _ h => h) (Or.inl ⟨by rfl, ?_⟩) ?_; rotate_left; (· (intro w; go_simp; all_goals (with_reducible rfl))); refine any_norm (by go_simp; all_goals exact rfl) ?_)
            refine any1 7 (by kernel_rfl) ?_
            refine op_store1 rfl (by rfl) 68 _ _ rfl ⟨w.heap.size + 2, 2, none⟩ rfl v' rfl HC5.out HO5.out size_hashes v (by rw [c7]; rfl) f7 ?_
            clear c7 f7
            refine any_norm (by go_simp; all_goals exact rfl) ?_
            refine wpAny_done (by kernel_rfl) ?_ _
            go_wp2_with fail
            exact ⟨⟨k + 1, ls ++ [x.hash.1], _, v', by simp, by omega, by simp only [List.length_append, List.length_cons, List.length_nil]; have := HLK.out; omega, HA5.out, HLN2.out, HNX.out⟩, by simp [RowKit.intOf] <;> omega⟩
      · have hcd : ¬ faultC x.f = 0 := by
          cases hx : x.f with
          | none => exact absurd hx hf
          | some y =>
            obtain ⟨a, p⟩ := y
            have := hd.rd.code a p hx
            show ¬ (a : Int) = 0
            omega
        have HHF := Lib.hid hf
        clear hd hls htr hlk hf
        obtain ⟨l2, hl2, hsm⟩ := HTR.out.stop (by have := HLK.out; omega) (fun _ => HHF.out)
        have HFR0 : Hid (RdD.fin (x.text 65536).2 = none → r = (⟨0, size, ls, str (x.text 65536).1⟩, none)) := Lib.hid (fun hf => by
          have e := HDEC.out l2 x hl2
          rw [if_pos hf, hsm (((text_le x 65536).fwd (fin_none _ hf)).1)] at e
          exact e)
        have HFR1 : Hid (RdD.fin (x.text 65536).2 ≠ none → r = (zeroA, RdD.fin (x.text 65536).2)) := Lib.hid (fun hf => by
          have e := HDEC.out l2 x hl2
          rw [if_neg hf] at e
          exact e)
        have HLV : Hid (∀ t ∈ ls, t.length = 32) := HLS
        clear hl2 hsm HTR HDEC HLK
        go_wp2_with fail
        have CT := text_r HD.out.rd 65536 (by decide)
        go_wp2_with fail
        refine CT.mono ?_
        rintro e wT ⟨rfl, RT, uT⟩
        have HT := HD.out.rdr RT uT
        have c3 := cell_of_blk HT.qb 3
        simp only [ansCells, List.size_toArray, List.getElem?_toArray, List.getElem?_cons_zero, List.getElem?_cons_succ] at c3
        have f3 := free_of_blk HT.qb 3
        have HD := Lib.hid (HT.set 3 (.string (str (RdD.text x 65536).1)) ⟨0, size, ls, str (RdD.text x 65536).1⟩ rfl rfl)
        clear HT RT uT CT
        generalize str (RdD.text x 65536).1 = leaf at *
        generalize (RdD.text x 65536).2 = xt at *
        go_wp2_with fail
        have CE := end_r HD.out.rd
        go_wp2_with fail
        refine CE.mono ?_
        rintro e w2 ⟨rfl, u⟩
        have HD4 := Lib.hid (HD.out.ext u)
        clear u CE HD
        cases hfin : RdD.fin xt with
        | none =>
          have HRES := Lib.hid (show r = (⟨0, size, ls, leaf⟩, none) from HFR0.out hfin)
          have hFB := blk_alloc w2 (.cells #[.int .i64 0, .int .i64 0] 36)
          have HX5 := Lib.hid ((Upd.refl none' w2).alloc (.cells #[.int .i64 0, .int .i64 0] 36))
          have HNE := Lib.hid (show w2.heap.size ≠ w.heap.size by have := HD4.out.low; omega)
          have HF12 := Lib.hid hFB
          have HD5 := Lib.hid (HD4.out.ext HX5.out)
          have HON := Lib.hid (own_one HD5.out.own)
          have q0 : faultC (none : EV) = 0 := rfl
          have q1 : faultA (none : EV) = 0 := rfl
          clear hfin hFB
          go_wp2_with fail
          generalize hWW : w2.alloc (.cells #[.int .i64 0, .int .i64 0] 36) = WW at *
          generalize hbF : w2.heap.size = bF at *
          refine wp_region_any (by kernel_rfl) ?_
          change wpAny _ _ _ _ _ _ _ (World.drew _)
          have HDW := Lib.hid ((Upd.refl none' WW).drew)
          generalize WW.drew = wd at HDW ⊢
          have HRD := Lib.hid (HD5.out.ext HDW.out)
          have HFB := Lib.hid (Ext.blk HDW.out HF12.out)
          have HE := Lib.hid (HRD.out.res.fin #[.int .u8 0, .int .u64 size, v, .string leaf] #[.int .i64 0, .int .i64 0])
          have HFS := Lib.hid (blk_setRow_ne HFB.out HNE.out #[.int .u8 0, .int .u64 size, v, .string leaf])
          clear HDW
          refine any2 0 1 (by kernel_rfl) ?_ ?_
          · refine op_loadAgg rfl (by rfl) 70 _ rfl (w.heap.size + 2) 0 rfl [.int .u8 0, .int .u64 size, v, .string leaf] Tryz.underlying70 rfl ans_size (fun j u hu => by rw [cell_of_blk HRD.out.qb]; simpa [ansCells] using hu) ?_
            refine any_norm (by go_simp; all_goals exact rfl) ?_
            refine any2 1 2 (by kernel_rfl) ?_ ?_
            · refine op_loadAgg rfl (by rfl) 36 _ rfl bF 0 rfl [.int .i64 0, .int .i64 0] Tryz.underlying36 rfl fault_size2 (fun j u hu => by rw [cell_of_blk HFB.out, Nat.zero_add, List.getElem?_toArray]; exact hu) ?_
              refine any_norm (by go_simp; all_goals exact rfl) ?_
              refine any1 2 (by kernel_rfl) ?_
              refine op_storeAgg rfl (by rfl) 70 _ _ rfl w.heap.size rfl [.int .u8 0, .int .u64 size, v, .string leaf] rfl ans_size zeroAns 70 HE.out.zq rfl (ans_one _ _ _ _ HON.out) ?_
              refine any_norm (by go_simp; all_goals exact rfl) ?_
              refine any1 3 (by kernel_rfl) ?_
              refine op_storeAgg rfl (by rfl) 36 _ _ rfl (w.heap.size + 1) rfl [.int .i64 0, .int .i64 0] rfl fault_size2 [.int .i64 0, .int .i64 0] 36 HE.out.zf rfl (fault_one _ _) ?_
              refine any_norm (by go_simp; all_goals exact rfl) ?_
              refine wpAny_done (by kernel_rfl) ?_ _
              go_wp2_with fail
              obtain ⟨a, cap, hv, htx⟩ := HRD.out.done HLV.out #[.int .u8 0, .int .u64 size, v, .string leaf] #[.int .i64 0, .int .i64 0]
              exact bodyPost_ret (v := .tuple #[.agg #[.int .u8 0, .int .u64 size, v, .string leaf], .agg #[.int .i64 0, .int .i64 0]]) (resRT _ _ w.heap.size (w.heap.size + 1) _ _ rfl rfl HE.out.q rfl HE.out.f rfl) rfl ⟨a, cap, by rw [HRES.out, hv]; rfl, by rw [HRES.out]; exact htx, HE.out.ext⟩
            · refine op_storeAgg rfl (by rfl) 70 _ _ rfl w.heap.size rfl [.int .u8 0, .int .u64 size, v, .string leaf] rfl ans_size zeroAns 70 HE.out.zq rfl (ans_one _ _ _ _ HON.out) ?_
              refine any_norm (by go_simp; all_goals exact rfl) ?_
              refine any1 1 (by kernel_rfl) ?_
              refine op_loadAgg rfl (by rfl) 36 _ rfl bF 0 rfl [.int .i64 0, .int .i64 0] Tryz.underlying36 rfl fault_size2 (fun j u hu => by rw [cell_of_blk HFS.out, Nat.zero_add, List.getElem?_toArray]; exact hu) ?_
              refine any_norm (by go_simp; all_goals exact rfl) ?_
              refine any1 3 (by kernel_rfl) ?_
              refine op_storeAgg rfl (by rfl) 36 _ _ rfl (w.heap.size + 1) rfl [.int .i64 0, .int .i64 0] rfl fault_size2 [.int .i64 0, .int .i64 0] 36 HE.out.zf rfl (fault_one _ _) ?_
              refine any_norm (by go_simp; all_goals exact rfl) ?_
              refine wpAny_done (by kernel_rfl) ?_ _
              go_wp2_with fail
              obtain ⟨a, cap, hv, htx⟩ := HRD.out.done HLV.out #[.int .u8 0, .int .u64 size, v, .string leaf] #[.int .i64 0, .int .i64 0]
              exact bodyPost_ret (v := .tuple #[.agg #[.int .u8 0, .int .u64 size, v, .string leaf], .agg #[.int .i64 0, .int .i64 0]]) (resRT _ _ w.heap.size (w.heap.size + 1) _ _ rfl rfl HE.out.q rfl HE.out.f rfl) rfl ⟨a, cap, by rw [HRES.out, hv]; rfl, by rw [HRES.out]; exact htx, HE.out.ext⟩
          · refine op_loadAgg rfl (by rfl) 36 _ rfl bF 0 rfl [.int .i64 0, .int .i64 0] Tryz.underlying36 rfl fault_size2 (fun j u hu => by rw [cell_of_blk HFB.out, Nat.zero_add, List.getElem?_toArray]; exact hu) ?_
            refine any_norm (by go_simp; all_goals exact rfl) ?_
            refine any1 0 (by kernel_rfl) ?_
            refine op_loadAgg rfl (by rfl) 70 _ rfl (w.heap.size + 2) 0 rfl [.int .u8 0, .int .u64 size, v, .string leaf] Tryz.underlying70 rfl ans_size (fun j u hu => by rw [cell_of_blk HRD.out.qb]; simpa [ansCells] using hu) ?_
            refine any_norm (by go_simp; all_goals exact rfl) ?_
            refine any1 2 (by kernel_rfl) ?_
            refine op_storeAgg rfl (by rfl) 70 _ _ rfl w.heap.size rfl [.int .u8 0, .int .u64 size, v, .string leaf] rfl ans_size zeroAns 70 HE.out.zq rfl (ans_one _ _ _ _ HON.out) ?_
            refine any_norm (by go_simp; all_goals exact rfl) ?_
            refine any1 3 (by kernel_rfl) ?_
            refine op_storeAgg rfl (by rfl) 36 _ _ rfl (w.heap.size + 1) rfl [.int .i64 0, .int .i64 0] rfl fault_size2 [.int .i64 0, .int .i64 0] 36 HE.out.zf rfl (fault_one _ _) ?_
            refine any_norm (by go_simp; all_goals exact rfl) ?_
            refine wpAny_done (by kernel_rfl) ?_ _
            go_wp2_with fail
            obtain ⟨a, cap, hv, htx⟩ := HRD.out.done HLV.out #[.int .u8 0, .int .u64 size, v, .string leaf] #[.int .i64 0, .int .i64 0]
            exact bodyPost_ret (v := .tuple #[.agg #[.int .u8 0, .int .u64 size, v, .string leaf], .agg #[.int .i64 0, .int .i64 0]]) (resRT _ _ w.heap.size (w.heap.size + 1) _ _ rfl rfl HE.out.q rfl HE.out.f rfl) rfl ⟨a, cap, by rw [HRES.out, hv]; rfl, by rw [HRES.out]; exact htx, HE.out.ext⟩
        | some y =>
          have HRES := Lib.hid (show r = (zeroA, some y) from (HFR1.out (by rw [hfin]; simp)).trans (by rw [hfin]))
          have hcode := HD4.out.rd.fin_codeT y hfin
          have hk1 : ¬ faultC (some y) = 0 := by omega
          have HEF := Lib.hid (show efV (some y) = .agg #[.int .i64 (faultC (some y)), .int .i64 (faultA (some y))] by rw [← efC_is, ← efA_is])
          have hFB := blk_alloc w2 (.cells #[.int .i64 (faultC (some y)), .int .i64 (faultA (some y))] 36)
          have HX5 := Lib.hid ((Upd.refl none' w2).alloc (.cells #[.int .i64 (faultC (some y)), .int .i64 (faultA (some y))] 36))
          have HNE := Lib.hid (show w2.heap.size ≠ w.heap.size by have := HD4.out.low; omega)
          have HF12 := Lib.hid hFB
          have HD5 := Lib.hid (HD4.out.ext HX5.out)
          clear hfin hFB hcode
          go_wp2_with fail
          generalize hWW : w2.alloc (.cells #[.int .i64 (faultC (some y)), .int .i64 (faultA (some y))] 36) = WW at *
          generalize hbF : w2.heap.size = bF at *
          refine wp_region_any (by kernel_rfl) ?_
          change wpAny _ _ _ _ _ _ _ (World.drew _)
          have HDW := Lib.hid ((Upd.refl none' WW).drew)
          generalize WW.drew = wd at HDW ⊢
          have HRD := Lib.hid (HD5.out.ext HDW.out)
          have HFB := Lib.hid (Ext.blk HDW.out HF12.out)
          have HE := Lib.hid (HRD.out.res.fin zeroAns.toArray #[.int .i64 (faultC (some y)), .int .i64 (faultA (some y))])
          have HFS := Lib.hid (blk_setRow_ne HFB.out HNE.out zeroAns.toArray)
          clear HDW
          (refine wpAny_take (i := 0) (v := ?_) rfl (by kernel_rfl) (by kernel_rfl) (by kernel_rfl) (fun _ _ _ h => h) (Or.inl ⟨by rfl, ?_⟩) ?_; rotate_left; (· (intro w; go_simp; all_goals (with_reducible rfl))); refine any_norm (by go_simp; all_goals exact rfl) ?_)
          refine any2 1 2 (by kernel_rfl) ?_ ?_
          · refine op_loadAgg rfl (by rfl) 36 _ rfl bF 0 rfl [.int .i64 (faultC (some y)), .int .i64 (faultA (some y))] Tryz.underlying36 rfl fault_size2 (fun j u hu => by rw [cell_of_blk HFB.out, Nat.zero_add, List.getElem?_toArray]; exact hu) ?_
            refine any_norm (by go_simp; all_goals exact rfl) ?_
            refine any1 2 (by kernel_rfl) ?_
            refine op_storeAgg rfl (by rfl) 70 _ _ rfl w.heap.size rfl zeroAns rfl ans_size zeroAns 70 HE.out.zq rfl zeroAns_one ?_
            refine any_norm (by go_simp; all_goals exact rfl) ?_
            refine any1 3 (by kernel_rfl) ?_
            refine op_storeAgg rfl (by rfl) 36 _ _ rfl (w.heap.size + 1) rfl [.int .i64 (faultC (some y)), .int .i64 (faultA (some y))] rfl fault_size2 [.int .i64 0, .int .i64 0] 36 HE.out.zf rfl (fault_one _ _) ?_
            refine any_norm (by go_simp; all_goals exact rfl) ?_
            refine wpAny_done (by kernel_rfl) ?_ _
            go_wp2_with fail
            exact bodyPost_ret (v := .tuple #[.agg zeroAns.toArray, .agg #[.int .i64 (faultC (some y)), .int .i64 (faultA (some y))]]) (resRT _ _ w.heap.size (w.heap.size + 1) _ _ rfl rfl HE.out.q rfl HE.out.f rfl) rfl ⟨none, 0, by rw [HRES.out, HEF.out]; rfl, by rw [HRES.out]; exact HashesAt.nil _ _, HE.out.ext⟩
          · refine op_storeAgg rfl (by rfl) 70 _ _ rfl w.heap.size rfl zeroAns rfl ans_size zeroAns 70 HE.out.zq rfl zeroAns_one ?_
            refine any_norm (by go_simp; all_goals exact rfl) ?_
            refine any1 1 (by kernel_rfl) ?_
            refine op_loadAgg rfl (by rfl) 36 _ rfl bF 0 rfl [.int .i64 (faultC (some y)), .int .i64 (faultA (some y))] Tryz.underlying36 rfl fault_size2 (fun j u hu => by rw [cell_of_blk HFS.out, Nat.zero_add, List.getElem?_toArray]; exact hu) ?_
            refine any_norm (by go_simp; all_goals exact rfl) ?_
            refine any1 3 (by kernel_rfl) ?_
            refine op_storeAgg rfl (by rfl) 36 _ _ rfl (w.heap.size + 1) rfl [.int .i64 (faultC (some y)), .int .i64 (faultA (some y))] rfl fault_size2 [.int .i64 0, .int .i64 0] 36 HE.out.zf rfl (fault_one _ _) ?_
            refine any_norm (by go_simp; all_goals exact rfl) ?_
            refine wpAny_done (by kernel_rfl) ?_ _
            go_wp2_with fail
            exact bodyPost_ret (v := .tuple #[.agg zeroAns.toArray, .agg #[.int .i64 (faultC (some y)), .int .i64 (faultA (some y))]]) (resRT _ _ w.heap.size (w.heap.size + 1) _ _ rfl rfl HE.out.q rfl HE.out.f rfl) rfl ⟨none, 0, by rw [HRES.out, HEF.out]; rfl, by rw [HRES.out]; exact HashesAt.nil _ _, HE.out.ext⟩
    · have hlti : ¬ (k : Int) < nn := by omega
      have HNL := Lib.hid hlt
      clear hd hls htr hlk
      obtain ⟨l2, hl2, hsm⟩ := HTR.out.stop (by have := HLK.out; omega) (fun h => absurd (by have := HLK.out; omega) HNL.out)
      have HFR0 : Hid (RdD.fin (x.text 65536).2 = none → r = (⟨0, size, ls, str (x.text 65536).1⟩, none)) := Lib.hid (fun hf => by
        have e := HDEC.out l2 x hl2
        rw [if_pos hf, hsm (((text_le x 65536).fwd (fin_none _ hf)).1)] at e
        exact e)
      have HFR1 : Hid (RdD.fin (x.text 65536).2 ≠ none → r = (zeroA, RdD.fin (x.text 65536).2)) := Lib.hid (fun hf => by
        have e := HDEC.out l2 x hl2
        rw [if_neg hf] at e
        exact e)
      have HLV : Hid (∀ t ∈ ls, t.length = 32) := HLS
      clear hl2 hsm HTR HDEC HLK
      go_wp2_with fail
      have CT := text_r HD.out.rd 65536 (by decide)
      go_wp2_with fail
      refine CT.mono ?_
      rintro e wT ⟨rfl, RT, uT⟩
      have HT := HD.out.rdr RT uT
      have c3 := cell_of_blk HT.qb 3
      simp only [ansCells, List.size_toArray, List.getElem?_toArray, List.getElem?_cons_zero, List.getElem?_cons_succ] at c3
      have f3 := free_of_blk HT.qb 3
      have HD := Lib.hid (HT.set 3 (.string (str (RdD.text x 65536).1)) ⟨0, size, ls, str (RdD.text x 65536).1⟩ rfl rfl)
      clear HT RT uT CT
      generalize str (RdD.text x 65536).1 = leaf at *
      generalize (RdD.text x 65536).2 = xt at *
      go_wp2_with fail
      have CE := end_r HD.out.rd
      go_wp2_with fail
      refine CE.mono ?_
      rintro e w2 ⟨rfl, u⟩
      have HD4 := Lib.hid (HD.out.ext u)
      clear u CE HD
      cases hfin : RdD.fin xt with
      | none =>
        have HRES := Lib.hid (show r = (⟨0, size, ls, leaf⟩, none) from HFR0.out hfin)
        have hFB := blk_alloc w2 (.cells #[.int .i64 0, .int .i64 0] 36)
        have HX5 := Lib.hid ((Upd.refl none' w2).alloc (.cells #[.int .i64 0, .int .i64 0] 36))
        have HNE := Lib.hid (show w2.heap.size ≠ w.heap.size by have := HD4.out.low; omega)
        have HF12 := Lib.hid hFB
        have HD5 := Lib.hid (HD4.out.ext HX5.out)
        have HON := Lib.hid (own_one HD5.out.own)
        have q0 : faultC (none : EV) = 0 := rfl
        have q1 : faultA (none : EV) = 0 := rfl
        clear hfin hFB
        go_wp2_with fail
        generalize hWW : w2.alloc (.cells #[.int .i64 0, .int .i64 0] 36) = WW at *
        generalize hbF : w2.heap.size = bF at *
        refine wp_region_any (by kernel_rfl) ?_
        change wpAny _ _ _ _ _ _ _ (World.drew _)
        have HDW := Lib.hid ((Upd.refl none' WW).drew)
        generalize WW.drew = wd at HDW ⊢
        have HRD := Lib.hid (HD5.out.ext HDW.out)
        have HFB := Lib.hid (Ext.blk HDW.out HF12.out)
        have HE := Lib.hid (HRD.out.res.fin #[.int .u8 0, .int .u64 size, v, .string leaf] #[.int .i64 0, .int .i64 0])
        have HFS := Lib.hid (blk_setRow_ne HFB.out HNE.out #[.int .u8 0, .int .u64 size, v, .string leaf])
        clear HDW
        refine any2 0 1 (by kernel_rfl) ?_ ?_
        · refine op_loadAgg rfl (by rfl) 70 _ rfl (w.heap.size + 2) 0 rfl [.int .u8 0, .int .u64 size, v, .string leaf] Tryz.underlying70 rfl ans_size (fun j u hu => by rw [cell_of_blk HRD.out.qb]; simpa [ansCells] using hu) ?_
          refine any_norm (by go_simp; all_goals exact rfl) ?_
          refine any2 1 2 (by kernel_rfl) ?_ ?_
          · refine op_loadAgg rfl (by rfl) 36 _ rfl bF 0 rfl [.int .i64 0, .int .i64 0] Tryz.underlying36 rfl fault_size2 (fun j u hu => by rw [cell_of_blk HFB.out, Nat.zero_add, List.getElem?_toArray]; exact hu) ?_
            refine any_norm (by go_simp; all_goals exact rfl) ?_
            refine any1 2 (by kernel_rfl) ?_
            refine op_storeAgg rfl (by rfl) 70 _ _ rfl w.heap.size rfl [.int .u8 0, .int .u64 size, v, .string leaf] rfl ans_size zeroAns 70 HE.out.zq rfl (ans_one _ _ _ _ HON.out) ?_
            refine any_norm (by go_simp; all_goals exact rfl) ?_
            refine any1 3 (by kernel_rfl) ?_
            refine op_storeAgg rfl (by rfl) 36 _ _ rfl (w.heap.size + 1) rfl [.int .i64 0, .int .i64 0] rfl fault_size2 [.int .i64 0, .int .i64 0] 36 HE.out.zf rfl (fault_one _ _) ?_
            refine any_norm (by go_simp; all_goals exact rfl) ?_
            refine wpAny_done (by kernel_rfl) ?_ _
            go_wp2_with fail
            obtain ⟨a, cap, hv, htx⟩ := HRD.out.done HLV.out #[.int .u8 0, .int .u64 size, v, .string leaf] #[.int .i64 0, .int .i64 0]
            exact bodyPost_ret (v := .tuple #[.agg #[.int .u8 0, .int .u64 size, v, .string leaf], .agg #[.int .i64 0, .int .i64 0]]) (resRT _ _ w.heap.size (w.heap.size + 1) _ _ rfl rfl HE.out.q rfl HE.out.f rfl) rfl ⟨a, cap, by rw [HRES.out, hv]; rfl, by rw [HRES.out]; exact htx, HE.out.ext⟩
          · refine op_storeAgg rfl (by rfl) 70 _ _ rfl w.heap.size rfl [.int .u8 0, .int .u64 size, v, .string leaf] rfl ans_size zeroAns 70 HE.out.zq rfl (ans_one _ _ _ _ HON.out) ?_
            refine any_norm (by go_simp; all_goals exact rfl) ?_
            refine any1 1 (by kernel_rfl) ?_
            refine op_loadAgg rfl (by rfl) 36 _ rfl bF 0 rfl [.int .i64 0, .int .i64 0] Tryz.underlying36 rfl fault_size2 (fun j u hu => by rw [cell_of_blk HFS.out, Nat.zero_add, List.getElem?_toArray]; exact hu) ?_
            refine any_norm (by go_simp; all_goals exact rfl) ?_
            refine any1 3 (by kernel_rfl) ?_
            refine op_storeAgg rfl (by rfl) 36 _ _ rfl (w.heap.size + 1) rfl [.int .i64 0, .int .i64 0] rfl fault_size2 [.int .i64 0, .int .i64 0] 36 HE.out.zf rfl (fault_one _ _) ?_
            refine any_norm (by go_simp; all_goals exact rfl) ?_
            refine wpAny_done (by kernel_rfl) ?_ _
            go_wp2_with fail
            obtain ⟨a, cap, hv, htx⟩ := HRD.out.done HLV.out #[.int .u8 0, .int .u64 size, v, .string leaf] #[.int .i64 0, .int .i64 0]
            exact bodyPost_ret (v := .tuple #[.agg #[.int .u8 0, .int .u64 size, v, .string leaf], .agg #[.int .i64 0, .int .i64 0]]) (resRT _ _ w.heap.size (w.heap.size + 1) _ _ rfl rfl HE.out.q rfl HE.out.f rfl) rfl ⟨a, cap, by rw [HRES.out, hv]; rfl, by rw [HRES.out]; exact htx, HE.out.ext⟩
        · refine op_loadAgg rfl (by rfl) 36 _ rfl bF 0 rfl [.int .i64 0, .int .i64 0] Tryz.underlying36 rfl fault_size2 (fun j u hu => by rw [cell_of_blk HFB.out, Nat.zero_add, List.getElem?_toArray]; exact hu) ?_
          refine any_norm (by go_simp; all_goals exact rfl) ?_
          refine any1 0 (by kernel_rfl) ?_
          refine op_loadAgg rfl (by rfl) 70 _ rfl (w.heap.size + 2) 0 rfl [.int .u8 0, .int .u64 size, v, .string leaf] Tryz.underlying70 rfl ans_size (fun j u hu => by rw [cell_of_blk HRD.out.qb]; simpa [ansCells] using hu) ?_
          refine any_norm (by go_simp; all_goals exact rfl) ?_
          refine any1 2 (by kernel_rfl) ?_
          refine op_storeAgg rfl (by rfl) 70 _ _ rfl w.heap.size rfl [.int .u8 0, .int .u64 size, v, .string leaf] rfl ans_size zeroAns 70 HE.out.zq rfl (ans_one _ _ _ _ HON.out) ?_
          refine any_norm (by go_simp; all_goals exact rfl) ?_
          refine any1 3 (by kernel_rfl) ?_
          refine op_storeAgg rfl (by rfl) 36 _ _ rfl (w.heap.size + 1) rfl [.int .i64 0, .int .i64 0] rfl fault_size2 [.int .i64 0, .int .i64 0] 36 HE.out.zf rfl (fault_one _ _) ?_
          refine any_norm (by go_simp; all_goals exact rfl) ?_
          refine wpAny_done (by kernel_rfl) ?_ _
          go_wp2_with fail
          obtain ⟨a, cap, hv, htx⟩ := HRD.out.done HLV.out #[.int .u8 0, .int .u64 size, v, .string leaf] #[.int .i64 0, .int .i64 0]
          exact bodyPost_ret (v := .tuple #[.agg #[.int .u8 0, .int .u64 size, v, .string leaf], .agg #[.int .i64 0, .int .i64 0]]) (resRT _ _ w.heap.size (w.heap.size + 1) _ _ rfl rfl HE.out.q rfl HE.out.f rfl) rfl ⟨a, cap, by rw [HRES.out, hv]; rfl, by rw [HRES.out]; exact htx, HE.out.ext⟩
      | some y =>
        have HRES := Lib.hid (show r = (zeroA, some y) from (HFR1.out (by rw [hfin]; simp)).trans (by rw [hfin]))
        have hcode := HD4.out.rd.fin_codeT y hfin
        have hk1 : ¬ faultC (some y) = 0 := by omega
        have HEF := Lib.hid (show efV (some y) = .agg #[.int .i64 (faultC (some y)), .int .i64 (faultA (some y))] by rw [← efC_is, ← efA_is])
        have hFB := blk_alloc w2 (.cells #[.int .i64 (faultC (some y)), .int .i64 (faultA (some y))] 36)
        have HX5 := Lib.hid ((Upd.refl none' w2).alloc (.cells #[.int .i64 (faultC (some y)), .int .i64 (faultA (some y))] 36))
        have HNE := Lib.hid (show w2.heap.size ≠ w.heap.size by have := HD4.out.low; omega)
        have HF12 := Lib.hid hFB
        have HD5 := Lib.hid (HD4.out.ext HX5.out)
        clear hfin hFB hcode
        go_wp2_with fail
        generalize hWW : w2.alloc (.cells #[.int .i64 (faultC (some y)), .int .i64 (faultA (some y))] 36) = WW at *
        generalize hbF : w2.heap.size = bF at *
        refine wp_region_any (by kernel_rfl) ?_
        change wpAny _ _ _ _ _ _ _ (World.drew _)
        have HDW := Lib.hid ((Upd.refl none' WW).drew)
        generalize WW.drew = wd at HDW ⊢
        have HRD := Lib.hid (HD5.out.ext HDW.out)
        have HFB := Lib.hid (Ext.blk HDW.out HF12.out)
        have HE := Lib.hid (HRD.out.res.fin zeroAns.toArray #[.int .i64 (faultC (some y)), .int .i64 (faultA (some y))])
        have HFS := Lib.hid (blk_setRow_ne HFB.out HNE.out zeroAns.toArray)
        clear HDW
        (refine wpAny_take (i := 0) (v := ?_) rfl (by kernel_rfl) (by kernel_rfl) (by kernel_rfl) (fun _ _ _ h => h) (Or.inl ⟨by rfl, ?_⟩) ?_; rotate_left; (· (intro w; go_simp; all_goals (with_reducible rfl))); refine any_norm (by go_simp; all_goals exact rfl) ?_)
        refine any2 1 2 (by kernel_rfl) ?_ ?_
        · refine op_loadAgg rfl (by rfl) 36 _ rfl bF 0 rfl [.int .i64 (faultC (some y)), .int .i64 (faultA (some y))] Tryz.underlying36 rfl fault_size2 (fun j u hu => by rw [cell_of_blk HFB.out, Nat.zero_add, List.getElem?_toArray]; exact hu) ?_
          refine any_norm (by go_simp; all_goals exact rfl) ?_
          refine any1 2 (by kernel_rfl) ?_
          refine op_storeAgg rfl (by rfl) 70 _ _ rfl w.heap.size rfl zeroAns rfl ans_size zeroAns 70 HE.out.zq rfl zeroAns_one ?_
          refine any_norm (by go_simp; all_goals exact rfl) ?_
          refine any1 3 (by kernel_rfl) ?_
          refine op_storeAgg rfl (by rfl) 36 _ _ rfl (w.heap.size + 1) rfl [.int .i64 (faultC (some y)), .int .i64 (faultA (some y))] rfl fault_size2 [.int .i64 0, .int .i64 0] 36 HE.out.zf rfl (fault_one _ _) ?_
          refine any_norm (by go_simp; all_goals exact rfl) ?_
          refine wpAny_done (by kernel_rfl) ?_ _
          go_wp2_with fail
          exact bodyPost_ret (v := .tuple #[.agg zeroAns.toArray, .agg #[.int .i64 (faultC (some y)), .int .i64 (faultA (some y))]]) (resRT _ _ w.heap.size (w.heap.size + 1) _ _ rfl rfl HE.out.q rfl HE.out.f rfl) rfl ⟨none, 0, by rw [HRES.out, HEF.out]; rfl, by rw [HRES.out]; exact HashesAt.nil _ _, HE.out.ext⟩
        · refine op_storeAgg rfl (by rfl) 70 _ _ rfl w.heap.size rfl zeroAns rfl ans_size zeroAns 70 HE.out.zq rfl zeroAns_one ?_
          refine any_norm (by go_simp; all_goals exact rfl) ?_
          refine any1 1 (by kernel_rfl) ?_
          refine op_loadAgg rfl (by rfl) 36 _ rfl bF 0 rfl [.int .i64 (faultC (some y)), .int .i64 (faultA (some y))] Tryz.underlying36 rfl fault_size2 (fun j u hu => by rw [cell_of_blk HFS.out, Nat.zero_add, List.getElem?_toArray]; exact hu) ?_
          refine any_norm (by go_simp; all_goals exact rfl) ?_
          refine any1 3 (by kernel_rfl) ?_
          refine op_storeAgg rfl (by rfl) 36 _ _ rfl (w.heap.size + 1) rfl [.int .i64 (faultC (some y)), .int .i64 (faultA (some y))] rfl fault_size2 [.int .i64 0, .int .i64 0] 36 HE.out.zf rfl (fault_one _ _) ?_
          refine any_norm (by go_simp; all_goals exact rfl) ?_
          refine wpAny_done (by kernel_rfl) ?_ _
          go_wp2_with fail
          exact bodyPost_ret (v := .tuple #[.agg zeroAns.toArray, .agg #[.int .i64 (faultC (some y)), .int .i64 (faultA (some y))]]) (resRT _ _ w.heap.size (w.heap.size + 1) _ _ rfl rfl HE.out.q rfl HE.out.f rfl) rfl ⟨none, 0, by rw [HRES.out, HEF.out]; rfl, by rw [HRES.out]; exact HashesAt.nil _ _, HE.out.ext⟩
/-- The document's DecodeAnswer, of any bytes. -/
theorem refT_any (s : ByteArray) (hs : s.size ≤ 9223372036854775807) (w : World) : Calls Tryz.prog 19 #[.string s] w (RefTPost w (decA s)) := by
  obtain ⟨bs, rfl⟩ : ∃ bs, s = str bs := ⟨s.data.toList, (str_toList s).symm⟩
  rw [str_size] at hs
  have hz : (str bs).size = bs.length := str_size bs
  have hdl : (str bs).data.toList = bs := by simp [str]
  by_cases hl : 1048576 < bs.length
  · have e : decA (str bs) = (zeroA, some (4, none)) := by unfold decA; rw [if_pos (by rw [hz]; exact hl)]
    rw [e]; exact refT_long bs hl hs
  · have hnl : ¬ 1048576 < (str bs).size := by rw [hz]; exact hl
    match hbs : bs with
    | [] =>
      have e : decA (str []) = (zeroA, some (3, some 0)) := by unfold decA; rw [if_neg hnl, hdl]
      rw [e]; exact refT_no [] (by simp) (.inl rfl)
    | c :: l =>
      by_cases hc : 5 < c.toNat
      · have e : decA (str (c :: l)) = (zeroA, some (3, some 0)) := by unfold decA; rw [if_neg hnl, hdl]; simp only; rw [if_pos hc]
        rw [e]; exact refT_no _ (by omega) (.inr ⟨c, l, rfl, hc⟩)
      · have e := decA_cons (str (c :: l)) hnl c l hdl hc
        by_cases h0 : c.toNat = 0
        · rw [if_pos h0] at e
          refine refT_zero _ (by omega) c l rfl h0 (RdD.var ⟨str (c :: l), 1, none⟩).1 (RdD.var (RdD.var ⟨str (c :: l), 1, none⟩).2).1 (RdD.var ⟨str (c :: l), 1, none⟩).2 (RdD.var (RdD.var ⟨str (c :: l), 1, none⟩).2).2 rfl rfl _ (Lib.hid (fun ls xx hd => ?_))
          rw [e]
          unfold decBody
          simp only
          rw [hd]
        · rw [if_neg h0] at e
          refine refT_code _ (by omega) c l rfl (by omega) h0 _ (fun hf => ?_) (fun hf => ?_)
          · rw [e]; simp only; rw [if_pos hf]
          · rw [e]; simp only; rw [if_neg hf]
end Go.Proofs.YtljnhelnmnomoaaGreatDoor
