/- growth.tiles by contract. writer.Create by contract. slices.Clone of hashes, writer.long, writer.Checkpoint by contracts. A writer's cells; writer.long, Checkpoint by contracts. -/
import Derived.Test.YtnkcfkjeeennmaaGreatDoorWrA
namespace Go.Proofs.YtnkcfkjeeennmaaGreatDoor
open Go.RowKit Go.Lib


/-- The new tiles of level k. -/
def tileK (n : Nat) (G : GrP) (k : Nat) : List LaidP := G.ls.getD k [] ++ (if G.ts.getD k false = true ∧ (G.es.getD k []).length ≠ 0 then [(k, n / 2 ^ (8 * k) / 256, (G.es.getD k []).length, G.es.getD k [])] else [])
def tilesP (n : Nat) (G : GrP) (m : Nat) : List LaidP := ((List.range m).map (tileK n G)).flatten
theorem tilesP_succ (n : Nat) (G : GrP) (m : Nat) : tilesP n G (m + 1) = tilesP n G m ++ tileK n G m := by
  unfold tilesP
  rw [List.range_succ, List.map_append, List.flatten_append]
  simp
theorem tileK_le {M n : Nat} {G : GrP} (h : okP M G) (k : Nat) : (tileK n G k).length ≤ M + 1 := by
  have := h.l k
  unfold tileK
  rw [List.length_append]
  split
  · rw [List.length_singleton]; omega
  · rw [List.length_nil]; omega
theorem tilesP_le {M n : Nat} {G : GrP} (h : okP M G) : ∀ m, (tilesP n G m).length ≤ m * (M + 1)
  | 0 => by simp [tilesP]
  | m + 1 => by
    rw [tilesP_succ, List.length_append, Nat.add_mul, Nat.one_mul]
    exact Nat.add_le_add (tilesP_le h m) (tileK_le h m)
theorem laidCs_len (l : List LaidD) : (laidCs l).length = l.length * 4 := by
  induction l with
  | nil => rfl
  | cons x l ih =>
    show (laidC x ++ laidCs l).length = _
    rw [List.length_append, ih, List.length_cons]
    simp [laidC]; omega
theorem laidCs_app (a b : List LaidD) : laidCs (a ++ b) = laidCs a ++ laidCs b := by simp [laidCs]
theorem laidCs_one {w : World} {B e : Nat} (l : List LaidD) (h : ∀ x ∈ l, w.ownsRow B e 32 x.v x.hs.length (hcells x.hs)) : ∀ u ∈ laidCs l, u.oneCell' = true := fun u hu => by
  obtain ⟨c, hc, hu2⟩ := List.mem_flatten.1 hu
  obtain ⟨x, hx, rfl⟩ := List.mem_map.1 hc
  simp only [laidC, List.mem_cons, List.not_mem_nil, or_false] at hu2
  rcases hu2 with rfl | rfl | rfl | rfl
  · rfl
  · rfl
  · rfl
  · exact own_oneA (h x hx)
/-- The cells of an own row, nil or not. -/
theorem cells_own {w : World} {B e size n : Nat} {A : Option Addr} {c : Nat} {xs : List Value} (h : w.ownsRow B e size (.slice A n c) n xs) : CellsAt w A xs := by
  rcases own_form h with ⟨hv, h0⟩ | ⟨g, cr, hv, _⟩
  · have := h.1
    rw [h0, Nat.zero_mul] at this
    rw [List.eq_nil_of_length_eq_zero this]
    intro j v hj
    simp at hj
  · simp only [Value.slice.injEq, true_and] at hv
    obtain ⟨rfl, _⟩ := hv
    exact fun j v hj => ⟨_, rfl, h.cells (g := g) rfl j v hj⟩
/-- Behind the tiles of j levels. -/
def TlRel (B n nt : Nat) (G : GrP) (w : World) (jv tv : Value) (wr : World) : Prop :=
  ∃ (j : Nat) (out : List LaidD), j ≤ nt ∧ jv = .int .i64 j ∧ wr.ownsRow w.heap.size 117 4 tv out.length (laidCs out) ∧ out.map LaidD.p = tilesP n G j ∧ (∀ x ∈ out, w.ownsRow B 30 32 x.v x.hs.length (hcells x.hs)) ∧ Ext w wr
set_option maxRecDepth 20000 in
set_option maxHeartbeats 8000000 in
theorem gtiles_any {B : Nat} {w : World} {gb : Nat} {V : GrV} {D : GrD} (h : GrAt B w gb V D) (hte : D.ts.length ≤ D.es.length) (h8 : D.ts.length ≤ 8) {M : Nat} (hM : M ≤ 1048576) (hok : okP M D.p) (hn : D.n < 16777216) :
    Calls Tryz.prog 48 #[.pointer (some ⟨gb, 0, none⟩)] w fun e w' => ∃ v out, e = .returned v ∧ w'.ownsRow w.heap.size 117 4 v out.length (laidCs out) ∧ out.map LaidD.p = tilesP D.n D.p D.ts.length ∧ (∀ x ∈ out, w.ownsRow B 30 32 x.v x.hs.length (hcells x.hs)) ∧ Ext w w' := by
  have HH := Lib.hid h
  have HTE := Lib.hid hte
  have HOK := Lib.hid (⟨hM, hok, hn⟩ : M ≤ 1048576 ∧ okP M D.p ∧ D.n < 16777216)
  obtain ⟨nt, hnt⟩ : ∃ nt, nt = D.ts.length := ⟨_, rfl⟩
  obtain ⟨ne, hne⟩ : ∃ ne, ne = D.es.length := ⟨_, rfl⟩
  obtain ⟨nl, hnl⟩ : ∃ nl, nl = D.ls.length := ⟨_, rfl⟩
  obtain ⟨tA, tc, htv⟩ := own_sl h.tr
  obtain ⟨eA, ec, hev⟩ := own_sl h.er
  obtain ⟨lA, lc, hdv⟩ := own_sl h.dr
  rw [← hnt] at htv
  rw [← hne] at hev
  rw [← hnl] at hdv
  have HNN := Lib.hid (⟨hnt, hne, hnl⟩ : nt = D.ts.length ∧ ne = D.es.length ∧ nl = D.ls.length)
  have HVV := Lib.hid (⟨htv, hev, hdv⟩ : V.tv = .slice tA nt tc ∧ V.ev = .slice eA ne ec ∧ V.dv = .slice lA nl lc)
  have h8n : nt ≤ 8 := by rw [hnt]; exact h8
  have c3 : w.cell? ⟨gb, 3, none⟩ = some (.slice tA nt tc) := by have := cell_of_blk h.blk 3; rw [htv] at this; exact this
  clear h hte h8 hM hok hn hnt hne hnl htv hev hdv
  go_enter Tryz.func48, Tryz.ntmps48
  go_wp2_with fail
  go_loopw [12, 3] (fun jv tv wr => TlRel B D.n nt D.p w jv tv wr) (fun jv _ _ => nt - (RowKit.intOf jv).toNat)
  case atStart => exact ⟨0, [], Nat.zero_le _, rfl, World.ownsRow_nil _ _ _ _, rfl, by simp, Upd.refl _ _⟩
  case round =>
    obtain ⟨j, out, hj, rfl, hown, hp, hx, hu⟩ := hrel
    obtain ⟨oA, oc, rfl⟩ := own_sl hown
    have HOWN := Lib.hid hown
    have HP := Lib.hid hp
    have HXX := Lib.hid hx
    have HU := Lib.hid hu
    have HG := Lib.hid (HH.out.ext hu)
    clear hown hp hx hu c3
    by_cases hlt : j < nt
    · have hji : (j : Int) < nt := by omega
      have hje : j < ne := by have := HNN.out; have := HTE.out; omega
      have hjl : j < nl := by have := HNN.out; have := HH.out.len; omega
      have hji2 : (j : Int) < ne := by omega
      have hji3 : (j : Int) < nl := by omega
      have htr := HG.out.tr
      have her := HG.out.er
      have hdr := HG.out.dr
      rw [HVV.out.1, ← HNN.out.1] at htr
      rw [HVV.out.2.1, ← HNN.out.2.1] at her
      rw [HVV.out.2.2, ← HNN.out.2.2] at hdr
      obtain ⟨tg, rfl⟩ : ∃ g, tA = some ⟨g, 0, none⟩ := by
        rcases own_form htr with ⟨_, h0⟩ | ⟨g, c, h1, _⟩
        · omega
        · simp only [Value.slice.injEq, true_and] at h1; exact ⟨g, h1.1⟩
      obtain ⟨eg, rfl⟩ : ∃ g, eA = some ⟨g, 0, none⟩ := by
        rcases own_form her with ⟨_, h0⟩ | ⟨g, c, h1, _⟩
        · omega
        · simp only [Value.slice.injEq, true_and] at h1; exact ⟨g, h1.1⟩
      obtain ⟨lg, rfl⟩ : ∃ g, lA = some ⟨g, 0, none⟩ := by
        rcases own_form hdr with ⟨_, h0⟩ | ⟨g, c, h1, _⟩
        · omega
        · simp only [Value.slice.injEq, true_and] at h1; exact ⟨g, h1.1⟩
      obtain ⟨tb, htb⟩ : ∃ tb, tb = D.ts.getD j false := ⟨_, rfl⟩
      have HTB := Lib.hid htb
      have ct : wr.cell? ⟨tg, j, none⟩ = some (.bool tb) := by
        rw [htb]
        have := htr.cells (g := tg) rfl j (.bool (D.ts.getD j false)) (by rw [List.getElem?_map, List.getD_eq_getElem?_getD, List.getElem?_eq_getElem (by have := HNN.out; omega)]; rfl)
        rwa [Addr.add_lit, Nat.zero_add] at this
      have c2 : wr.cell? ⟨gb, 2, none⟩ = some (.slice (some ⟨lg, 0, none⟩) nl lc) := by have := cell_of_blk HG.out.blk 2; rw [HVV.out.2.2] at this; exact this
      obtain ⟨dA, dlc, hdk⟩ := own_sl (HG.out.de j)
      obtain ⟨kA, kc, hek⟩ := own_sl (HG.out.ee j)
      obtain ⟨ml, hml⟩ : ∃ ml, ml = (D.ls.getD j []).length := ⟨_, rfl⟩
      obtain ⟨m, hm⟩ : ∃ m, m = (D.es.getD j []).length := ⟨_, rfl⟩
      have hde := HG.out.de j
      rw [hdk] at hde
      rw [← hml] at hdk hde
      rw [← hm] at hek
      have cl : wr.cell? ⟨lg, j, none⟩ = some (.slice dA ml dlc) := by
        have := hdr.cells (g := lg) rfl j (V.dvs.getD j nilS) (by rw [List.getD_eq_getElem?_getD, List.getElem?_eq_getElem (by have := hdr.1; omega)]; rfl)
        rw [Addr.add_lit, Nat.zero_add] at this
        rw [this, hdk]
      have HEK := Lib.hid hek
      have HML := Lib.hid hml
      have HME := Lib.hid hm
      have HJ := Lib.hid (⟨hje, hjl⟩ : j < ne ∧ j < nl)
      have HCD := Lib.hid (cells_own hde)
      have HLL := Lib.hid (show (laidCs (D.ls.getD j [])).length = ml * 4 by rw [laidCs_len, hml])
      have HL1 := Lib.hid (laidCs_one _ (HH.out.lh j))
      have HOL : Hid (out.length ≤ 8 * (M + 1) ∧ ml ≤ M ∧ m < 256) := Lib.hid (by
        have h1 := tilesP_le (n := D.n) HOK.out.2.1 j
        rw [← HP.out, List.length_map] at h1
        have h2 : j * (M + 1) ≤ 8 * (M + 1) := Nat.mul_le_mul_right _ (by omega)
        have h3 := HOK.out.2.1.l j
        have h4 : (D.p.ls.getD j []).length = (D.ls.getD j []).length := by
          show ((D.ls.map (fun l => l.map LaidD.p)).getD j []).length = _
          rw [show (D.ls.map (fun l => l.map LaidD.p)).getD j [] = (D.ls.getD j []).map LaidD.p from map_getD (fun l => l.map LaidD.p) D.ls j [], List.length_map]
        have h5 := (HOK.out.2.1.h j).1
        have h6 : (D.p.es.getD j []).length = m := by rw [hm]; rfl
        omega)
      have HBB := Lib.hid (show w.heap.size ≤ wr.heap.size from HU.out.size)
      have HLM := Lib.hid (show out.length + ml ≤ maxLen ∧ (out.length + ml) * 48 ≤ 140737488355328 by unfold maxLen; have := HOL.out; have := HOK.out.1; omega)
      obtain ⟨j0, jz, hj0, hjz, hjs, hjb, hjc⟩ := laid_parts
      have HLT := Lib.hid hlt
      have ce1 : V.ev = .slice (some ⟨eg, 0, none⟩) ne ec := HVV.out.2.1
      have HCE := Lib.hid ce1
      clear htb hlt htr her hdr hdk hek hde hml hm hje hjl ce1
      go_wp2_with (at_builtin; (refine wpList_appX rfl _ _ 112 rfl w.heap.size 117 j0 jz 4 48 Tryz.underlying112 hj0 hjz hjs hjb hjc (by decide) (.slice oA out.length oc) out.length _ rfl HOWN.out dA ml dlc (laidCs (D.ls.getD j [])) rfl HLL.out HCD.out HL1.out HLM.out.1 HLM.out.2 HBB.out ?_))
      intro A5 c5 w5 hown5 hgrow5 _
      have HO5 : Hid (w5.ownsRow w.heap.size 117 4 (.slice A5 (out.length + ml) c5) (out.length + ml) (laidCs (out ++ D.ls.getD j []))) := Lib.hid (by rw [laidCs_app]; exact hown5)
      have HU5 := Lib.hid (HU.out.grown hgrow5 (fun g hg => .inl (HOWN.out.lt g hg).1))
      have HG5 := Lib.hid (HH.out.ext HU5.out)
      have e1 : w5.cell? ⟨gb, 1, none⟩ = some (.slice (some ⟨eg, 0, none⟩) ne ec) := by have := cell_of_blk HG5.out.blk 1; rw [HCE.out] at this; exact this
      have ce : w5.cell? ⟨eg, j, none⟩ = some (.slice kA m kc) := by
        have her := HG5.out.er
        rw [HCE.out, ← HNN.out.2.1] at her
        have := her.cells (g := eg) rfl j (V.vs.getD j nilS) (by rw [List.getD_eq_getElem?_getD, List.getElem?_eq_getElem (by have := her.1; have := HJ.out; omega)]; rfl)
        rw [Addr.add_lit, Nat.zero_add] at this
        rw [this, HEK.out]
      have HX5 : Hid (∀ x ∈ out ++ D.ls.getD j [], w.ownsRow B 30 32 x.v x.hs.length (hcells x.hs)) := Lib.hid (fun x hx => by
        rcases List.mem_append.1 hx with h1 | h1
        · exact HXX.out x h1
        · exact HH.out.lh j x h1)
      have HP5 : Hid ((out ++ D.ls.getD j []).map LaidD.p = tilesP D.n D.p j ++ D.p.ls.getD j []) := Lib.hid (by
        rw [List.map_append, HP.out]
        congr 1
        exact (map_getD (fun l => l.map LaidD.p) D.ls j []).symm)
      have HOL5 := Lib.hid (show (out ++ D.ls.getD j []).length = out.length + ml by rw [List.length_append, HML.out])
      clear hown5 hgrow5 ct c2 cl
      generalize hout : out ++ D.ls.getD j [] = out5 at *
      generalize hn5 : out.length + ml = n5 at *
      have HN5 := Lib.hid hn5
      clear hn5 hout
      cases tb with
      | false =>
        go_wp2_with fail
        have hlt := HLT.out
        refine ⟨⟨j + 1, out5, by omega, rfl, by rw [HOL5.out]; exact HO5.out, ?_, HX5.out, HU5.out⟩, by simp [RowKit.intOf]; omega⟩
        rw [HP5.out, tilesP_succ, tileK, if_neg (by intro h; have h1 : D.ts.getD j false = true := h.1; rw [← HTB.out] at h1; cases h1), List.append_nil]
      | true =>
        by_cases hm0 : m = 0
        · subst hm0
          go_wp2_with fail
          have hlt := HLT.out
          refine ⟨⟨j + 1, out5, by omega, rfl, by rw [HOL5.out]; exact HO5.out, ?_, HX5.out, HU5.out⟩, by simp [RowKit.intOf]; omega⟩
          rw [HP5.out, tilesP_succ, tileK, if_neg (by intro h; exact h.2 HME.out.symm), List.append_nil]
        · have hmi : decide (0 < m) = true := by simp; omega
          have HM0 := Lib.hid hm0
          clear hm0
          have CS := size_any HG5.out.bld
          have e0 : w5.cell? ⟨gb, 0, none⟩ = some (.pointer (some ⟨V.bb, 0, none⟩)) := cell_of_blk HG5.out.blk 0
          have hj8 : j < 8 := by have := HLT.out; omega
          have hj256 : IntKind.u8.wrap (j : Int) = j := by rw [IntKind.wrap_u8']; omega
          have h8j : IntKind.i64.wrap (8 * (j : Int)) = ((8 * j : Nat) : Int) := by rw [IntKind.wrap_i64]; omega
          obtain ⟨S, hS⟩ : ∃ S, S = D.n / 2 ^ (8 * j) := ⟨_, rfl⟩
          obtain ⟨q, hq⟩ : ∃ q, q = S / 256 := ⟨_, rfl⟩
          have hqi : (S : Int) / 256 = (q : Nat) := by rw [hq]; simp
          have hSn : S ≤ D.n := by rw [hS]; exact Nat.div_le_self _ _
          have hwq : IntKind.u64.wrap (q : Int) = q := by
            have h1 := HOK.out.2.2
            rw [IntKind.wrap_u64]; omega
          have HSQ := Lib.hid (⟨hS, hq⟩ : S = D.n / 2 ^ (8 * j) ∧ q = S / 256)
          have HSH := Lib.hid hS.symm
          clear hSn hS hq
          go_wp2_with fail
          refine CS.mono ?_
          rintro e w6 ⟨rfl, rfl⟩
          clear CS e0
          have HNL := Lib.hid (show ([.int .u8 j, .int .u64 q, .int .i64 m, .slice kA m kc] : List Value).length = 4 from rfl)
          have HEX := Lib.hid ((Upd.refl none' w5).alloc (.cells ([.int .u8 j, .int .u64 q, .int .i64 m, .slice kA m kc] : List Value).toArray 117))
          have HO6 := Lib.hid (ownsRow_upd HO5.out HEX.out (fun _ _ => id))
          have HCN := Lib.hid (CellsAt.new w5 [.int .u8 j, .int .u64 q, .int .i64 m, .slice kA m kc] 117)
          have HX1 : Hid (∀ u ∈ ([.int .u8 j, .int .u64 q, .int .i64 m, .slice kA m kc] : List Value), u.oneCell' = true) := Lib.hid (by
            intro u hu
            simp only [List.mem_cons, List.not_mem_nil, or_false] at hu
            rcases hu with rfl | rfl | rfl | rfl <;> rfl)
          have HLM6 := Lib.hid (show n5 + 1 ≤ maxLen ∧ (n5 + 1) * 48 ≤ 140737488355328 by unfold maxLen; have := HOL.out; have := HOK.out.1; have := HN5.out; omega)
          have HBW6 := Lib.hid (show w.heap.size ≤ (w5.alloc (.cells ([.int .u8 j, .int .u64 q, .int .i64 m, .slice kA m kc] : List Value).toArray 117)).heap.size from Nat.le_trans HU5.out.size HEX.out.size)
          go_wp2_with (first
            | (refine wpList_run rfl (run_bop _ rfl (.int .u64 D.n) (.int .i64 (8 * j : Nat)) (.int .u64 S) rfl rfl (run_shrU .i64 D.n (8 * j) S (by omega) HSH.out _)) ?_)
            | (refine wpList_run rfl (exec_build _ [(0, .tmp 41), (1, .tmp 50), (2, .tmp 52)] rfl [(0, .int .u8 j), (1, .int .u64 q), (2, .int .i64 m)] _ rfl (run_tile _ j q m)) ?_)
            | (refine wpList_run rfl (exec_build _ [(0, .tmp 53), (1, .tmp 54)] rfl [(0, .agg #[.int .u8 j, .int .u64 q, .int .i64 m]), (1, .slice kA m kc)] _ rfl (run_laid _ j q m kA m kc)) ?_)
            | (refine wpList_run rfl (run_buildOneA _ 112 117 _ rfl [.int .u8 j, .int .u64 q, .int .i64 m, .slice kA m kc] rfl Tryz.underlying112 laid_size laid_zero (by show 0 < 4; omega) (by show 4 ≤ 16777216; omega)) ?_)
            | (at_builtin; (refine wpList_appX rfl _ _ 112 rfl w.heap.size 117 j0 jz 4 48 Tryz.underlying112 hj0 hjz hjs hjb hjc (by decide) (.slice A5 n5 c5) n5 _ rfl HO6.out (some ⟨w5.heap.size, 0, none⟩) 1 1 [.int .u8 j, .int .u64 q, .int .i64 m, .slice kA m kc] rfl rfl HCN.out HX1.out HLM6.out.1 HLM6.out.2 HBW6.out ?_)))
          intro A7 c7 w7 hown7 hgrow7 _
          have HO7 : Hid (w7.ownsRow w.heap.size 117 4 (.slice A7 (n5 + 1) c7) (n5 + 1) (laidCs (out5 ++ [⟨j, q, m, D.es.getD j [], V.vs.getD j nilS⟩]))) := Lib.hid (by
            rw [laidCs_app]
            rw [show laidCs [⟨j, q, m, D.es.getD j [], V.vs.getD j nilS⟩] = [.int .u8 j, .int .u64 q, .int .i64 m, .slice kA m kc] by rw [HEK.out]; rfl]
            exact hown7)
          have HU7 := Lib.hid ((HU5.out.alloc _).grown hgrow7 (fun g hg => .inl (HO5.out.lt g hg).1))
          clear hown7 hgrow7
          go_wp2_with fail
          have hlt := HLT.out
          refine ⟨⟨j + 1, out5 ++ [⟨j, q, m, D.es.getD j [], V.vs.getD j nilS⟩], by omega, rfl, ?_, ?_, ?_, HU7.out⟩, by simp [RowKit.intOf]; omega⟩
          · rw [List.length_append, List.length_singleton, HOL5.out]; exact HO7.out
          · rw [List.map_append, HP5.out, tilesP_succ, tileK, if_pos ⟨HTB.out.symm, by show (D.es.getD j []).length ≠ 0; rw [← HME.out]; exact HM0.out⟩, List.append_assoc, HSQ.out.2, HSQ.out.1, HME.out]
            rfl
          · intro x hx
            rcases List.mem_append.1 hx with h1 | h1
            · exact HX5.out x h1
            · rw [List.mem_singleton.1 h1]
              exact HH.out.ee j
    · have hji : ¬ (j : Int) < nt := by omega
      have hjn : j = nt := by omega
      have HJN := Lib.hid hjn
      clear hlt hj hjn
      go_wp2_with fail
      go_ret
      refine ⟨_, rfl, out, HOWN.out, ?_, HXX.out, HU.out⟩
      rw [HP.out, HJN.out, HNN.out.1]

/-- Has a store a log? -/
def hasB (x : StD) : Bool := Lib.containsS (strs (namesL x.texts)) (str headB)
theorem names_has {b mb : Nat} {tv : Value} {x : StD} {w : World} (H : StAt w b mb tv x) (hL : x.texts.length ≤ 4398046511104) :
    Calls Tryz.prog 39 #[.pointer (some ⟨b, 0, none⟩)] w fun e w' => ∃ sl, e = .returned sl ∧ Ext w w' ∧ ∀ w'', Ext w' w'' → Calls Tryz.prog 58 #[sl, .string (str headB)] w'' fun e2 w3 => e2 = .returned (.bool (hasB x)) ∧ w3 = w'' := by
  refine (names_any H hL).mono ?_
  rintro e w' ⟨g, cap, rfl, hown, hu⟩
  refine ⟨_, rfl, hu, fun w'' hx => ?_⟩
  have hl : (namesL x.texts).length = x.texts.length := by
    have := hown.1
    rwa [List.length_map, Nat.mul_one] at this
  have hl2 : (strs (namesL x.texts)).length = x.texts.length := by rw [strs, List.length_map, hl]
  have C := Tryz.slices_Contains_string g 0 x.texts.length cap (strs (namesL x.texts)) (str headB) w'' (by omega) (by omega) (fun j hj => by
    have hj2 : j < (namesL x.texts).length := by rw [strs, List.length_map] at hj; exact hj
    have h := (ownsRow_upd hown hx (fun _ _ => id)).cells (g := g) rfl j (encStr (namesL x.texts)[j]) (by simp [hj2])
    rw [Addr.add_lit] at h
    refine h.trans ?_
    simp [strs, List.getD_eq_getElem?_getD, hj2])
  rw [List.take_of_length_le (by omega)] at C
  exact C
set_option maxRecDepth 20000 in
set_option maxHeartbeats 4000000 in
theorem create_bad {B b mb : Nat} {se : Nat → Addr} {tv : Value} {x : StD} {w : World} (E : Env B se w) (H : StAt w b mb tv x) (o : List UInt8) (hol : o.length ≤ 1099511627776) (hL : x.texts.length ≤ 4398046511104) (hbad : nameB o = false ∨ hasB x = true) :
    Calls Tryz.prog 15 #[.pointer (some ⟨b, 0, none⟩), .string (str o)] w fun e w' => e = .returned (.tuple #[.pointer none, sv se 2]) ∧ Ext w w' := by
  have CT := there_st E.g H
  have HE := Lib.hid E
  have HH := Lib.hid H
  have HOL := Lib.hid hol
  have HL := Lib.hid hL
  clear E H hol hL
  cases hn : nameB o with
  | false =>
    have HN := Lib.hid hn
    clear hn hbad
    go_enter Tryz.func15, Tryz.ntmps15
    go_wp2_with fail
    refine CT.mono ?_
    rintro e w1 ⟨rfl, hx1⟩
    have HX1 := Lib.hid hx1
    have CN := name_any w1 o HOL.out (HE.out.ext hx1).bt (HE.out.ext hx1).ut
    rw [HN.out] at CN
    clear hx1 CT
    go_wp2_with fail
    refine CN.mono ?_
    rintro e w2 ⟨rfl, hx2⟩
    have HX2 := Lib.hid (HX1.out.trans hx2)
    have g2 : w2.cell? ⟨3, 0, none⟩ = some (sv se 2) := (HE.out.ext HX2.out).g.cell 2 (by omega) (by omega)
    clear hx2 CN
    go_wp2_with fail
    go_quiet (fail)
    go_wp2_with fail
    go_ret2
    exact ⟨rfl, HX2.out.drewN _⟩
  | true =>
    have HN := Lib.hid hn
    have HHB := Lib.hid (show hasB x = true by
      rcases hbad with h | h
      · rw [hn] at h; cases h
      · exact h)
    clear hn hbad
    go_enter Tryz.func15, Tryz.ntmps15
    go_wp2_with fail
    refine CT.mono ?_
    rintro e w1 ⟨rfl, hx1⟩
    have HX1 := Lib.hid hx1
    have CN := name_any w1 o HOL.out (HE.out.ext hx1).bt (HE.out.ext hx1).ut
    rw [HN.out] at CN
    clear hx1 CT
    go_wp2_with fail
    refine CN.mono ?_
    rintro e w2 ⟨rfl, hx2⟩
    have HX2 := Lib.hid (HX1.out.trans hx2)
    have CS := names_has (HH.out.ext HX2.out) HL.out
    clear hx2 CN
    go_wp2_with fail
    refine CS.mono ?_
    rintro e w3 ⟨sl, rfl, hx3, hc3⟩
    have HX3 := Lib.hid (HX2.out.trans hx3)
    have CC := hc3 w3 (Upd.refl _ _)
    rw [HHB.out] at CC
    clear hx3 hc3 CS
    go_wp2_with fail
    refine CC.mono ?_
    rintro e w4 ⟨rfl, rfl⟩
    have g2 : w4.cell? ⟨3, 0, none⟩ = some (sv se 2) := (HE.out.ext HX3.out).g.cell 2 (by omega) (by omega)
    clear CC
    go_wp2_with fail
    go_quiet (fail)
    go_wp2_with fail
    go_ret2
    exact ⟨rfl, HX3.out.drewN _⟩
/-- A writer that stands so. -/
structure WrAt (w : World) (wb : Nat) (sp : Value) (o : List UInt8) (n : Nat) (root : HB) (ev : Value) (ended : Bool) : Prop where
  blk : w.heap[wb]? = some (.cells (wrC sp o n root ev ended).toArray 35 (0, 0))
def CrPost (se : Nat → Addr) (b mb : Nat) (tv : Value) (w : World) (o : List UInt8) (z : HB) (r : StD × EV) (e : Ending) (w' : World) : Prop :=
  StAt w' b mb tv r.1 ∧ Upd (two b mb) w w' ∧ match r.2 with
    | some er => e = .returned (.tuple #[.pointer none, evS se (some er)])
    | none => ∃ wb, e = .returned (.tuple #[.pointer (some ⟨wb, 0, none⟩), .nilIface]) ∧ WrAt w' wb (.pointer (some ⟨b, 0, none⟩)) o 0 z (.slice none 0 0) false ∧ w.heap.size ≤ wb
set_option maxRecDepth 20000 in
set_option maxHeartbeats 8000000 in
theorem create_ok {B b mb : Nat} {se : Nat → Addr} {tv : Value} {x : StD} {w : World} (E : Env B se w) (H : StAt w b mb tv x) (hB : B ≤ b) (hM : B ≤ mb) (o : List UInt8) (hn : nameB o = true) (hol : o.length ≤ 64) (hL : x.texts.length ≤ 4398046511104) (hh : hasB x = false) (hnw : x.nw < 4611686018427387904) (z : HB) (hz : z = emptyH) :
    Calls Tryz.prog 15 #[.pointer (some ⟨b, 0, none⟩), .string (str o)] w (CrPost se b mb tv w o z (x.put (str headB) (str (ckptB o 0 z)))) := by
  have CT := there_st E.g H
  have HE := Lib.hid E
  have HH := Lib.hid H
  have HBM := Lib.hid (⟨hB, hM⟩ : B ≤ b ∧ B ≤ mb)
  have HOL := Lib.hid hol
  have HL := Lib.hid hL
  have HN := Lib.hid hn
  have HHB := Lib.hid hh
  have HNW := Lib.hid hnw
  generalize hr0 : x.put (str headB) (str (ckptB o 0 z)) = r at *
  have HZ := Lib.hid hz
  have HZ32 := Lib.hid (show z.length = 32 by rw [hz]; exact emptyH_len)
  have HR0 := Lib.hid hr0
  clear E H hB hM hol hL hn hh hnw hr0 hz
  go_enter Tryz.func15, Tryz.ntmps15
  go_wp2_with fail
  refine CT.mono ?_
  rintro e w1 ⟨rfl, hx1⟩
  have HX1 := Lib.hid hx1
  have CN := name_any w1 o (by have := HOL.out; omega) (HE.out.ext hx1).bt (HE.out.ext hx1).ut
  rw [HN.out] at CN
  clear hx1 CT
  go_wp2_with fail
  refine CN.mono ?_
  rintro e w2 ⟨rfl, hx2⟩
  have HX2 := Lib.hid (HX1.out.trans hx2)
  have CS := names_has (HH.out.ext HX2.out) HL.out
  clear hx2 CN
  go_wp2_with fail
  refine CS.mono ?_
  rintro e w3 ⟨sl, rfl, hx3, hc3⟩
  have HX3 := Lib.hid (HX2.out.trans hx3)
  have CC := hc3 w3 (Upd.refl _ _)
  rw [HHB.out] at CC
  clear hx3 hc3 CS
  go_wp2_with fail
  refine CC.mono ?_
  rintro e w4 ⟨rfl, rfl⟩
  clear CC
  have CE := empty_h w4 (HE.out.ext HX3.out).sgw (HE.out.ext HX3.out).sh
  rw [← HZ.out] at CE
  go_wp2_with fail
  refine CE.mono ?_
  rintro e w5 ⟨rfl, hx5⟩
  have HX5 := Lib.hid (HX3.out.trans hx5)
  clear hx5 CE
  have HCS := Lib.hid (ck_size o 0 z HZ32.out)
  have HC1 := Lib.hid (ck_one o 0 z)
  have HZL := Lib.hid (ck_len o 0 z HZ32.out)
  have HX6 := Lib.hid (HX5.out.alloc (.cells (ckC o 0 z).toArray 32))
  have HQ6 := Lib.hid (blk_alloc w5 (.cells (ckC o 0 z).toArray 32))
  have HCC := Lib.hid (blk_cells HQ6.out)
  have CP := puts_any (HE.out.ext HX6.out) (HH.out.ext HX6.out) HBM.out.1 HBM.out.2 o 0 z HZ32.out HN.out HOL.out (by omega) HNW.out (by have := HL.out; omega)
  rw [HR0.out] at CP
  have HLW := Lib.hid HX5.out.size
  go_wp2_with (first
    | (refine wpList_run rfl (exec_build _ [(0, .tmp 21), (2, .tmp 22)] rfl [(0, .string (str o)), (2, hashV z)] (ckV o 0 z) rfl (run_ck0 _ o z HZ32.out)) ?_)
    | (refine store_new rfl 32 _ _ rfl _ _ rfl (ckC o 0 z) rfl HCS.out (by rw [HZL.out]; rfl) HC1.out ?_)
    | (refine wpList_loadAgg rfl 32 _ rfl w5.heap.size 0 rfl (ckC o 0 z) Tryz.underlying32 rfl HCS.out HCC.out ?_))
  refine CP.mono ?_
  rintro e w7 ⟨rfl, hs, hu⟩
  have HS := Lib.hid hs
  have HU := Lib.hid (show Upd (two b mb) w w7 from (Upd.ext HX6.out (two b mb)).trans hu)
  have HQ7 := Lib.hid (hu.blk HQ6.out (fun e => by
    have h1 := lt_of_blk (HH.out.ext HX5.out).blk
    have h2 : mb < w5.heap.size := by
      obtain ⟨es, c, hb⟩ := (HH.out.ext HX5.out).tex.blk
      exact lt_of_blk hb
    rcases e with e | e <;> omega))
  have HCC7 := Lib.hid (blk_cells HQ7.out)
  clear hs hu CP
  generalize w5.heap.size = q at *
  obtain ⟨x', er⟩ := r
  cases er with
  | some er =>
    obtain ⟨k, p⟩ := er
    simp only [evS]
    go_wp2_with fail
    go_ret2
    exact ⟨HS.out, HU.out, rfl⟩
  | none =>
    have HWR := Lib.hid (run_wr w7 b (ckC o 0 z) (ck_len o 0 z HZ32.out))
    simp only [evS]
    go_wp2_with (first
      | (refine wpList_loadAgg rfl 32 _ rfl q 0 rfl (ckC o 0 z) Tryz.underlying32 rfl HCS.out HCC7.out ?_)
      | (refine wpList_run rfl (exec_build _ [(0, .tmp 30), (1, .tmp 31)] rfl [(0, .pointer (some ⟨b, 0, none⟩)), (1, .agg (ckC o 0 z).toArray)] _ rfl HWR.out) ?_))
    go_ret2
    have X8 := (Upd.refl none' w7).alloc (.cells (Value.pointer (some ⟨b, 0, none⟩) :: (ckC o 0 z ++ [.slice none 0 0, .bool false])).toArray 35)
    exact ⟨HS.out.ext X8, HU.out.thenExt X8, w7.heap.size, rfl, ⟨blk_alloc w7 _⟩, HU.out.size⟩

theorem eq_slNil (w : World) {t e : TypeId} (A : Option Addr) (n c : Nat) (hu : Tryz.prog.underlying t = some (.slice e)) : ∀ d, (Op.equalIn (d + 1) t (.slice A n c) (.slice none 0 0)).run Tryz.prog w = .ok A.isNone w := fun d => by
  cases A <;> (simp only [Op.equalIn, Sem.run_bind, run_underlying hu, Result.andThen_ok]; rfl)
theorem run_slNil {a : Act} {o : Oper} (w : World) {x y : Operand} {t tr e : TypeId} (ho : o.op = .binOp .eql t x y tr) (A : Option Addr) (n c : Nat) (hx : a.eval x = .slice A n c) (hy : a.eval y = .slice none 0 0) (hu : Tryz.prog.underlying t = some (.slice e)) :
    (execOp a.eval o).run Tryz.prog w = .ok (.value (.bool A.isNone)) w := by
  refine run_bop w ho _ _ _ hx hy ?_
  have h2 : (Op.equal t (.slice A n c) (.slice none 0 0)).run Tryz.prog w = .ok A.isNone w := eq_slNil w A n c hu 9999
  have h3 : (eqGuard .eql t x y (.slice A n c) (.slice none 0 0)).run Tryz.prog w = .ok () w := rfl
  have h4 : binOp .eql t (.slice A n c) (.slice none 0 0) = (do pure (.bool (← Op.equal t (.slice A n c) (.slice none 0 0)))) := rfl
  rw [Sem.run_bind, h3, Result.andThen_ok, h4, Sem.run_bind, h2]
  rfl
set_option maxRecDepth 20000 in
set_option maxHeartbeats 4000000 in
theorem clone_any {B n : Nat} {v : Value} {xs : List Value} {w : World} (h : w.ownsRow B 30 32 v n xs) (h1 : ∀ u ∈ xs, u.oneCell' = true) (hn : n ≤ 65536) :
    Calls Tryz.prog 43 #[v] w fun e w' => ∃ v', e = .returned v' ∧ w'.ownsRow w.heap.size 30 32 v' n xs ∧ Ext w w' := by
  obtain ⟨i0, hi0, hz0, hz1, hz2⟩ := info_parts info_hash
  rcases own_form h with ⟨rfl, rfl⟩ | ⟨g, c, rfl, hb⟩
  · have hx : xs = [] := List.eq_nil_of_length_eq_zero (by have := h.1; omega)
    subst hx
    clear h
    go_enter Tryz.func43, Tryz.ntmps43
    go_wp2_with (refine wpList_run rfl (run_slNil _ rfl none 0 0 rfl rfl Tryz.underlying65) ?_)
    go_ret
    exact ⟨_, rfl, World.ownsRow_nil _ _ _ _, Upd.refl _ _⟩
  · have HC := Lib.hid ((cells_own h).ext ((Upd.refl none' w).alloc (.cells #[] 30)))
    have HL := Lib.hid h.1
    have H1 := Lib.hid h1
    have HLM := Lib.hid (show 0 + n ≤ maxLen ∧ (0 + n) * 32 ≤ 140737488355328 by unfold maxLen; omega)
    have HO : Hid ((w.alloc (.cells #[] 30)).ownsRow w.heap.size 30 32 (.slice (some ⟨w.heap.size, 0, none⟩) 0 0) 0 []) := Lib.hid ⟨rfl, .inr ⟨w.heap.size, 0, #[], rfl, Nat.le_refl _, blk_alloc _ _, Nat.le_refl _, by decide, by simp, by simp⟩⟩
    have HB := Lib.hid (show w.heap.size ≤ (w.alloc (.cells #[] 30)).heap.size by simp)
    have HX := Lib.hid ((Upd.refl none' w).alloc (.cells #[] 30))
    clear h h1 hb
    go_enter Tryz.func43, Tryz.ntmps43
    go_wp2_with (first | (refine wpList_run rfl (run_slNil _ rfl (some ⟨g, 0, none⟩) n c rfl rfl Tryz.underlying65) ?_) | at_builtin; (refine wpList_appX rfl _ _ 65 rfl w.heap.size 30 i0 _ 32 32 Tryz.underlying65 hi0 hz0 hz1 hz2 rfl (by decide) (.slice (some ⟨w.heap.size, 0, none⟩) 0 0) 0 _ rfl HO.out (some ⟨g, 0, none⟩) n c xs rfl HL.out HC.out H1.out HLM.out.1 HLM.out.2 HB.out ?_))
    intro A' c' w' hown hgrow _
    have HOW := Lib.hid hown
    have HU := Lib.hid (HX.out.grown hgrow (fun k hk => .inl (by obtain rfl := Option.some.inj hk; exact Nat.le_refl _)))
    clear hown hgrow
    go_wp2_with fail
    go_ret
    exact ⟨_, rfl, HOW.out, HU.out⟩
/-- Is a text longer than a leaf may be? -/
def longS (s : List UInt8) : Bool := decide (65536 < s.length)
theorem long1_any (s : List UInt8) (w : World) : Calls Tryz.prog 96 #[.string (str s)] w fun e w' => e = .returned (.bool (longS s)) ∧ w = w' := by
  obtain ⟨n, hn⟩ : ∃ n, n = s.length := ⟨_, rfl⟩
  have hs : (str s).size = n := by rw [str_size, hn]
  have hb : longS s = decide (65536 < n) := by rw [hn]; rfl
  have HBB := Lib.hid hb
  clear hn hb
  go_enter Tryz.func96, Tryz.ntmps96
  go_wp2_with fail
  go_ret
  rw [HBB.out]
  exact ⟨by first | rfl | (simp; omega), rfl⟩
/-- The texts of a row, wherever they lie. -/
abbrev strC (ls : List (List UInt8)) : List Value := ls.map (fun s => Value.string (str s))
theorem strC_get {w : World} {g o : Nat} {ls : List (List UInt8)} (h : CellsAt w (some ⟨g, o, none⟩) (strC ls)) (j : Nat) (hj : j < ls.length) : w.cell? ⟨g, o + j, none⟩ = some (.string (str (ls.getD j []))) :=
  h.cell (by rw [List.getElem?_map, List.getD_eq_getElem?_getD, List.getElem?_eq_getElem hj]; rfl)
/-- Where the texts lie: nowhere, or somewhere. -/
theorem cells_some {w : World} {A : Option Addr} {cs : List Value} (h : CellsAt w A cs) (hA : A = none ∨ ∃ g o, A = some ⟨g, o, none⟩) (hc : 0 < cs.length) : ∃ g o, A = some ⟨g, o, none⟩ := by
  rcases hA with rfl | h2
  · obtain ⟨ad, e, _⟩ := h 0 cs[0] (List.getElem?_eq_getElem hc)
    cases e
  · exact h2
set_option maxRecDepth 20000 in
set_option maxHeartbeats 4000000 in
theorem ixf_any (A : Option Addr) (ls : List (List UInt8)) (c : Nat) (w : World) (h : CellsAt w A (strC ls)) (hA : A = none ∨ ∃ g o, A = some ⟨g, o, none⟩) (hl : ls.length ≤ 65536) :
    Calls Tryz.prog 143 #[.slice A ls.length c, .func (.func 96) #[] #[]] w fun e w' => ∃ r : Int, e = .returned (.int .i64 r) ∧ decide (0 ≤ r) = ls.any longS ∧ w = w' := by
  have HH := Lib.hid h
  have HA := Lib.hid hA
  clear h hA
  obtain ⟨n, hn⟩ : ∃ n, n = ls.length := ⟨_, rfl⟩
  have HN := Lib.hid hn
  rw [← hn]
  rw [← hn] at hl
  clear hn
  go_enter Tryz.func143, Tryz.ntmps143
  go_wp2_with fail
  go_loopw [8] (fun jv wr => ∃ j : Nat, j ≤ n ∧ jv = .int .i64 j ∧ (ls.take j).any longS = false ∧ w = wr) (fun jv _ => n - (RowKit.intOf jv).toNat)
  case atStart => exact ⟨0, Nat.zero_le _, rfl, by simp, rfl⟩
  case round =>
    obtain ⟨j, hj, rfl, ha, rfl⟩ := hrel
    have HAN := Lib.hid ha
    clear ha
    by_cases hlt : j < n
    · have hji : (j : Int) < n := by omega
      obtain ⟨g, o, rfl⟩ := cells_some HH.out HA.out (by rw [List.length_map, ← HN.out]; omega)
      have cc := strC_get HH.out j (by rw [← HN.out]; exact hlt)
      have C := long1_any (ls.getD j []) w
      have HTK := Lib.hid (show ls.take (j + 1) = ls.take j ++ [ls.getD j []] by rw [List.take_succ_eq_append_getElem (by rw [← HN.out]; exact hlt), List.getD_eq_getElem?_getD, List.getElem?_eq_getElem (by rw [← HN.out]; exact hlt)]; rfl)
      obtain ⟨s, hs⟩ : ∃ s, s = ls.getD j [] := ⟨_, rfl⟩
      rw [← hs] at cc C HTK
      have HSS := Lib.hid (show s ∈ ls by rw [hs, List.getD_eq_getElem?_getD, List.getElem?_eq_getElem (by rw [← HN.out]; exact hlt)]; exact List.getElem_mem _)
      have HJ := Lib.hid hlt
      clear hs hlt
      go_wp2_with fail
      refine C.mono ?_
      rintro e w1 ⟨rfl, rfl⟩
      clear C
      cases hb : longS s with
      | false =>
        have HB := Lib.hid hb
        clear hb
        go_wp2_with fail
        have := HJ.out
        refine ⟨⟨j + 1, by omega, rfl, ?_, trivial⟩, by simp [RowKit.intOf]; omega⟩
        rw [HTK.out, List.any_append, HAN.out, List.any_cons, HB.out]
        rfl
      | true =>
        have HB := Lib.hid hb
        clear hb
        go_wp2_with fail
        go_ret
        refine ⟨_, rfl, ?_, rfl⟩
        rw [List.any_eq_true.2 ⟨s, HSS.out, HB.out⟩]
        simp
    · have hji : ¬ (j : Int) < n := by omega
      have HJ := Lib.hid (show j = n by omega)
      clear hlt hj
      go_wp2_with fail
      go_ret
      refine ⟨_, rfl, ?_, rfl⟩
      have h := HAN.out
      rw [HJ.out, List.take_of_length_le (by rw [HN.out]; exact Nat.le_refl _)] at h
      rw [h]
      decide
set_option maxRecDepth 20000 in
theorem cnf_any (A : Option Addr) (ls : List (List UInt8)) (c : Nat) (w : World) (h : CellsAt w A (strC ls)) (hA : A = none ∨ ∃ g o, A = some ⟨g, o, none⟩) (hl : ls.length ≤ 65536) :
    Calls Tryz.prog 95 #[.slice A ls.length c, .func (.func 96) #[] #[]] w fun e w' => e = .returned (.bool (ls.any longS)) ∧ w = w' := by
  have C := ixf_any A ls c w h hA hl
  clear h hA hl
  generalize ls.any longS = r at *
  generalize ls.length = n at *
  go_enter Tryz.func95, Tryz.ntmps95
  go_wp2_with fail
  refine C.mono ?_
  rintro e w1 ⟨k, rfl, hk, rfl⟩
  have HK := Lib.hid hk
  clear C hk
  go_wp2_with fail
  go_ret
  rw [← HK.out]
  exact ⟨by first | rfl | simp, rfl⟩

theorem wrC_mid (sp : Value) (o : List UInt8) (n : Nat) (root : HB) (ev : Value) (ended : Bool) : ∀ i v, (ckC o n root)[i]? = some v → (wrC sp o n root ev ended)[1 + i]? = some v := fun i v hv => by
  unfold wrC
  rw [show 1 + i = i + 1 by omega, List.getElem?_cons_succ, List.getElem?_append_left (List.getElem?_eq_some_iff.1 hv).1]
  exact hv
theorem wrC_ev (sp : Value) (o : List UInt8) (n : Nat) (root : HB) (ev : Value) (ended : Bool) (hr : root.length = 32) : (wrC sp o n root ev ended)[36]? = some ev ∧ (wrC sp o n root ev ended)[37]? = some (.bool ended) := by
  unfold wrC
  have h := ck_len o n root hr
  constructor
  · rw [show (36 : Nat) = 35 + 1 from rfl, List.getElem?_cons_succ, List.getElem?_append_right (by omega), h]; rfl
  · rw [show (37 : Nat) = 36 + 1 from rfl, List.getElem?_cons_succ, List.getElem?_append_right (by omega), h]; rfl
section
variable {w w' : World} {wb : Nat} {sp : Value} {o : List UInt8} {n : Nat} {root : HB} {ev : Value} {ended : Bool}
theorem WrAt.cell (h : WrAt w wb sp o n root ev ended) {i : Nat} {v : Value} (hv : (wrC sp o n root ev ended)[i]? = some v) : w.cell? ⟨wb, i, none⟩ = some v := by
  rw [cell_of_blk h.blk i]; simpa using hv
theorem WrAt.c0 (h : WrAt w wb sp o n root ev ended) : w.cell? ⟨wb, 0, none⟩ = some sp := h.cell rfl
theorem WrAt.c1 (h : WrAt w wb sp o n root ev ended) : w.cell? ⟨wb, 1, none⟩ = some (.string (str o)) := h.cell rfl
theorem WrAt.c2 (h : WrAt w wb sp o n root ev ended) : w.cell? ⟨wb, 2, none⟩ = some (.int .u64 n) := h.cell rfl
theorem WrAt.ck (h : WrAt w wb sp o n root ev ended) : ∀ i v, (ckC o n root)[i]? = some v → w.cell? ⟨wb, 1 + i, none⟩ = some v := fun i v hv => h.cell (wrC_mid sp o n root ev ended i v hv)
theorem WrAt.c36 (h : WrAt w wb sp o n root ev ended) (hr : root.length = 32) : w.cell? ⟨wb, 36, none⟩ = some ev := h.cell (wrC_ev sp o n root ev ended hr).1
theorem WrAt.c37 (h : WrAt w wb sp o n root ev ended) (hr : root.length = 32) : w.cell? ⟨wb, 37, none⟩ = some (.bool ended) := h.cell (wrC_ev sp o n root ev ended hr).2
theorem WrAt.upd {S : Nat → Prop} (h : WrAt w wb sp o n root ev ended) (u : Upd S w w') (hS : ¬ S wb) : WrAt w' wb sp o n root ev ended := ⟨u.blk h.blk hS⟩
theorem WrAt.ext (h : WrAt w wb sp o n root ev ended) (u : Ext w w') : WrAt w' wb sp o n root ev ended := h.upd u id
end
set_option maxRecDepth 20000 in
set_option maxHeartbeats 4000000 in
theorem long_any {w : World} {wb : Nat} {sp : Value} {o : List UInt8} {n : Nat} {root : HB} {ev : Value} {ended : Bool} (H : WrAt w wb sp o n root ev ended) (hn : n ≤ 1048576) (A : Option Addr) (ls : List (List UInt8)) (c : Nat) (h : CellsAt w A (strC ls)) (hA : A = none ∨ ∃ g o, A = some ⟨g, o, none⟩) (hl : ls.length ≤ 65536) :
    Calls Tryz.prog 40 #[.pointer (some ⟨wb, 0, none⟩), .slice A ls.length c] w fun e w' => e = .returned (.bool (decide (4096 < ls.length) || decide (1048576 < n + ls.length) || ls.any longS)) ∧ w = w' := by
  have C := cnf_any A ls c w h hA hl
  have c2 := H.c2
  generalize ls.any longS = r at *
  generalize ls.length = m at *
  clear H h hA
  by_cases h1 : 4096 < m
  · have h1i : (4096 : Int) < m := by omega
    have hr : (decide (4096 < m) || decide (1048576 < n + m) || r) = true := by simp [h1]
    have HR := Lib.hid hr
    clear h1 hr
    go_enter Tryz.func40, Tryz.ntmps40
    go_wp2_with fail
    go_ret
    first | exact ⟨rfl, rfl⟩ | (rw [HR.out]; exact ⟨rfl, rfl⟩)
  · have h1i : ¬ (4096 : Int) < m := by omega
    have hw : IntKind.u64.wrap (m : Int) = m := by rw [IntKind.wrap_u64]; omega
    have hw2 : IntKind.u64.wrap ((n : Int) + m) = ((n + m : Nat) : Int) := by rw [IntKind.wrap_u64]; omega
    by_cases h2 : 1048576 < n + m
    · have h2i : decide (1048576 < n + m) = true := by simp [h2]
      have h2j : (1048576 : Int) < (n : Int) + m := by omega
      have hr : (decide (4096 < m) || decide (1048576 < n + m) || r) = true := by simp [h2]
      have HR := Lib.hid hr
      clear h1 h2 hr
      go_enter Tryz.func40, Tryz.ntmps40
      go_wp2_with fail
      go_ret
      first | exact ⟨rfl, rfl⟩ | (rw [HR.out]; exact ⟨rfl, rfl⟩)
    · have h2i : decide (1048576 < n + m) = false := by simp; omega
      have h2j : ¬ (1048576 : Int) < (n : Int) + m := by omega
      have hr : (decide (4096 < m) || decide (1048576 < n + m) || r) = r := by simp [h1, h2i]
      have HR := Lib.hid hr
      clear h1 h2 hr
      go_enter Tryz.func40, Tryz.ntmps40
      go_wp2_with fail
      refine C.mono ?_
      rintro e w1 ⟨rfl, rfl⟩
      clear C
      go_wp2_with fail
      go_ret
      first | exact ⟨rfl, rfl⟩ | (rw [HR.out]; exact ⟨rfl, rfl⟩)
/-- A checkpoint's zero. -/
def z32B : HB := List.replicate 32 0
theorem z32B_len : z32B.length = 32 := by simp [z32B]
theorem ckz_size : (Tryz.prog.info? 32).map (·.size) = some (ckC [] 0 z32B).length := ck_size [] 0 z32B z32B_len
set_option maxRecDepth 20000 in
set_option maxHeartbeats 4000000 in
theorem ckp_any {w : World} {wb : Nat} {sp : Value} {o : List UInt8} {n : Nat} {root : HB} {ev : Value} {ended : Bool} (H : WrAt w wb sp o n root ev ended) (hr : root.length = 32) : Calls Tryz.prog 14 #[.pointer (some ⟨wb, 0, none⟩)] w fun e w' => e = .returned (ckV o n root) ∧ Ext w w' := by
  have HS := Lib.hid (ck_size o n root hr)
  have HZ := Lib.hid (ck_len o n root hr)
  have H1 := Lib.hid (ck_one o n root)
  have HQ := Lib.hid (blk_alloc w (.cells (ckC o n root).toArray 32))
  have HX := Lib.hid ((Upd.refl none' w).alloc (.cells (ckC o n root).toArray 32))
  have HC := Lib.hid (fun (z : Array Value) => (H.ext ((Upd.refl none' w).alloc (.cells z 32))).ck)
  clear H hr
  go_enter Tryz.func14, Tryz.ntmps14
  go_wp2_with (first
    | (refine wpList_loadAgg rfl 32 _ rfl wb 1 rfl (ckC o n root) Tryz.underlying32 rfl HS.out (HC.out _) ?_)
    | (refine store_new rfl 32 _ _ rfl _ _ rfl (ckC o n root) rfl HS.out (by rw [HZ.out]; rfl) H1.out ?_))
  have hsz : (Tryz.prog.info? 32).map (·.size) = some (ckC o n root).toArray.size := HS.out
  exact bodyPost_ret (v := ckV o n root) (results_cell_row rfl _ _ w.heap.size 32 _ (0, 0) _ rfl HQ.out Tryz.underlying32 rfl hsz) rfl ⟨rfl, HX.out⟩
end Go.Proofs.YtnkcfkjeeennmaaGreatDoor
