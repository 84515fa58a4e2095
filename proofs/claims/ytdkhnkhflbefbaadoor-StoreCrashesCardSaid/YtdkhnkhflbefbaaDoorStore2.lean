/- The store by contracts: New, Restart, refused, Counts, Dead, Put. -/
import Derived.Test.YtdkhnkhflbefbaaDoorStore
namespace Go.Proofs.YtdkhnkhflbefbaaDoor
open Go.RowKit Go.Lib

/-- A sentinel as a value. -/
def evS (se : Nat → Addr) : EV → Value
  | none => .nilIface
  | some (k, _) => sv se k
theorem evS_is (se : Nat → Addr) (w : World) (e : EV) (h : ∀ k p, e = some (k, p) → 1 ≤ k ∧ k ≤ 16 ∧ p = none) : ErrIs se w (evS se e) e := by
  cases e with
  | none => rfl
  | some e =>
    obtain ⟨k, p⟩ := e
    obtain ⟨h1, h2, rfl⟩ := h k p rfl
    exact ⟨h1, h2, rfl⟩
set_option maxRecDepth 8000 in
set_option maxHeartbeats 4000000 in
theorem new_no {B : Nat} {se : Nat → Addr} {w : World} (G : Genv B se w) (a : Option Addr) (zs : List Int) (cap : Nat) (c : Int) (h : RdsAt w a zs) (hz : zs.length ≤ 35184372088832) (hm : mayR zs = false) :
    Calls Tryd.prog 14 #[.agg #[.slice a zs.length cap, .int .i64 c]] w fun e w' => e = .returned (.tuple #[.pointer none, sv se 2]) ∧ Ext w w' := by
  have X := (Upd.refl none' w).alloc (.cells #[.slice a zs.length cap, .int .i64 c] 24)
  have hbx := blk_alloc w (.cells #[.slice a zs.length cap, .int .i64 c] 24)
  have t0 := cell_of_blk hbx 0
  have t1 := cell_of_blk hbx 1
  simp only [List.size_toArray, List.getElem?_toArray, List.getElem?_cons_zero, List.getElem?_cons_succ] at t0 t1
  have C := may_any a zs cap c _ (h.ext X) (by omega)
  rw [hm] at C
  have HX := Lib.hid X
  have HG := Lib.hid G
  clear X hbx h hm hz G
  go_enter Tryd.func14, Tryd.ntmps14
  go_wp2_with fail
  refine C.mono ?_
  rintro e w2 ⟨rfl, u⟩
  have HX2 := Lib.hid (HX.out.trans u)
  have g2 : w2.cell? ⟨2, 0, none⟩ = some (sv se 2) := (HG.out.ext HX2.out).cell 2 (by omega) (by omega)
  clear u C t0 t1
  go_wp2_with fail
  go_quiet (fail)
  go_wp2_with fail
  go_ret2
  exact ⟨rfl, HX2.out.drewN _⟩
set_option maxRecDepth 8000 in
set_option maxHeartbeats 4000000 in
theorem new_ok (w : World) (a : Option Addr) (zs : List Int) (cap : Nat) (c : Int) (h : RdsAt w a zs) (hz : zs.length ≤ 35184372088832) (hm : mayR zs = true) :
    Calls Tryd.prog 14 #[.agg #[.slice a zs.length cap, .int .i64 c]] w fun e w' => ∃ b mb tv, e = .returned (.tuple #[.pointer (some ⟨b, 0, none⟩), .nilIface]) ∧ StAt w' b mb tv ⟨[], zs, c, 0, 0, false⟩ ∧ w.heap.size ≤ b ∧ w.heap.size ≤ mb ∧ Ext w w' := by
  have X := (Upd.refl none' w).alloc (.cells #[.slice a zs.length cap, .int .i64 c] 24)
  have hbx := blk_alloc w (.cells #[.slice a zs.length cap, .int .i64 c] 24)
  have t0 := cell_of_blk hbx 0
  have t1 := cell_of_blk hbx 1
  simp only [List.size_toArray, List.getElem?_toArray, List.getElem?_cons_zero, List.getElem?_cons_succ] at t0 t1
  have C := may_any a zs cap c _ (h.ext X) (by omega)
  rw [hm] at C
  have HX := Lib.hid X
  have HH := Lib.hid h
  have HM := Lib.hid hm
  have HBX := Lib.hid hbx
  have HZ := Lib.hid hz
  clear X hbx h hm hz
  have hmm := @run_makeMap Tryd.prog
  go_enter Tryd.func14, Tryd.ntmps14
  go_wp2_with fail
  refine C.mono ?_
  rintro e w2 ⟨rfl, u⟩
  have HX2 := Lib.hid (HX.out.trans u)
  have hbx := Ext.blk u HBX.out
  have hbs := blk_alloc (w2.alloc (.map #[] 0)) (.cells (stRow (.map (some w2.heap.size)) (.slice none 0 0) ⟨[], [], 0, 0, 0, false⟩) 30)
  rw [World.size_alloc] at hbs
  have XS := ((Upd.refl none' w2).alloc (.map #[] 0)).alloc (.cells (stRow (.map (some w2.heap.size)) (.slice none 0 0) ⟨[], [], 0, 0, 0, false⟩) 30)
  have hbt := Ext.blk XS hbx
  have t0 := cell_of_blk hbt 0
  have t1 := cell_of_blk hbt 1
  simp only [List.size_toArray, List.getElem?_toArray, List.getElem?_cons_zero, List.getElem?_cons_succ] at t0 t1
  have CT := take_any a zs cap c hbs (HH.out.ext (HX2.out.trans XS)) HZ.out
  have HMP := Lib.hid ((MapAt.made w2).ext ((Upd.refl none' _).alloc (.cells (stRow (.map (some w2.heap.size)) (.slice none 0 0) ⟨[], [], 0, 0, 0, false⟩) 30)))
  have HXS := Lib.hid (HX2.out.trans XS)
  have HSZ := Lib.hid HX2.out.size
  clear u C hbx hbs hbt XS
  simp only [stRow, Int.natCast_zero] at t0 t1 CT HMP HXS
  go_wp2_with fail
  refine CT.mono ?_
  rintro e w3 ⟨rfl, tv, hb, hr, hg, u⟩
  have HB3 := Lib.hid hb
  have HR3 := Lib.hid hr
  have HU3 := Lib.hid u
  clear hb hr hg u CT
  go_wp2_with fail
  go_ret2
  have hs := HSZ.out
  refine ⟨w2.heap.size + 1, w2.heap.size, tv, rfl, ⟨HB3.out, HMP.out.upd HU3.out (fun e => by have : w2.heap.size = w2.heap.size + 1 := e; omega), HR3.out, HM.out⟩, by omega, hs, HXS.out.then HU3.out (fun k hk e => by have : k = w2.heap.size + 1 := e; omega)⟩
/-- .. with other trouble to come. -/
def StD.take (x : StD) (zs : List Int) (c : Int) : StD := ⟨x.texts, zs, c, 0, 0, false⟩
set_option maxRecDepth 8000 in
set_option maxHeartbeats 4000000 in
theorem restart_no {B b mb : Nat} {se : Nat → Addr} {tv : Value} {x : StD} {w : World} (G : Genv B se w) (H : StAt w b mb tv x) (a : Option Addr) (zs : List Int) (cap : Nat) (c : Int) (h : RdsAt w a zs) (hz : zs.length ≤ 35184372088832) (hm : mayR zs = false) :
    Calls Tryd.prog 8 #[.pointer (some ⟨b, 0, none⟩), .agg #[.slice a zs.length cap, .int .i64 c]] w fun e w' => e = .returned (sv se 2) ∧ Ext w w' := by
  have X := (Upd.refl none' w).alloc (.cells #[.slice a zs.length cap, .int .i64 c] 24)
  have hbx := blk_alloc w (.cells #[.slice a zs.length cap, .int .i64 c] 24)
  have t0 := cell_of_blk hbx 0
  have t1 := cell_of_blk hbx 1
  simp only [List.size_toArray, List.getElem?_toArray, List.getElem?_cons_zero, List.getElem?_cons_succ] at t0 t1
  have m0 := cell_of_blk (Ext.blk X H.blk) 0
  simp only [stRow, List.size_toArray, List.getElem?_toArray, List.getElem?_cons_zero, List.getElem?_cons_succ] at m0
  have C := may_any a zs cap c _ (h.ext X) (by omega)
  rw [hm] at C
  have HX := Lib.hid X
  have HG := Lib.hid G
  clear X hbx h hm hz G H
  have hm0 := map_has mb
  go_enter Tryd.func8, Tryd.ntmps8
  go_wp2_with fail
  refine C.mono ?_
  rintro e w2 ⟨rfl, u⟩
  have HX2 := Lib.hid (HX.out.trans u)
  have g2 : w2.cell? ⟨2, 0, none⟩ = some (sv se 2) := (HG.out.ext HX2.out).cell 2 (by omega) (by omega)
  clear u C t0 t1 m0
  go_wp2_with fail
  go_ret
  exact ⟨rfl, HX2.out⟩
set_option maxRecDepth 8000 in
set_option maxHeartbeats 4000000 in
theorem restart_ok {b mb : Nat} {tv : Value} {x : StD} {w : World} (H : StAt w b mb tv x) (a : Option Addr) (zs : List Int) (cap : Nat) (c : Int) (h : RdsAt w a zs) (hz : zs.length ≤ 35184372088832) (hm : mayR zs = true) :
    Calls Tryd.prog 8 #[.pointer (some ⟨b, 0, none⟩), .agg #[.slice a zs.length cap, .int .i64 c]] w fun e w' => e = .returned .nilIface ∧ ∃ tv', StAt w' b mb tv' (x.take zs c) ∧ (∀ g, tv'.ownBlock = some g → w.heap.size ≤ g) ∧ Upd (one b) w w' := by
  have X := (Upd.refl none' w).alloc (.cells #[.slice a zs.length cap, .int .i64 c] 24)
  have hbx := blk_alloc w (.cells #[.slice a zs.length cap, .int .i64 c] 24)
  have t0 := cell_of_blk hbx 0
  have t1 := cell_of_blk hbx 1
  simp only [List.size_toArray, List.getElem?_toArray, List.getElem?_cons_zero, List.getElem?_cons_succ] at t0 t1
  have m0 := cell_of_blk (Ext.blk X H.blk) 0
  simp only [stRow, List.size_toArray, List.getElem?_toArray, List.getElem?_cons_zero, List.getElem?_cons_succ] at m0
  have C := may_any a zs cap c _ (h.ext X) (by omega)
  rw [hm] at C
  have HX := Lib.hid X
  have HH := Lib.hid h
  have HM := Lib.hid hm
  have HBX := Lib.hid hbx
  have HZ := Lib.hid hz
  have HS := Lib.hid H
  clear X hbx h hm hz H
  have hm0 := map_has mb
  go_enter Tryd.func8, Tryd.ntmps8
  go_wp2_with fail
  refine C.mono ?_
  rintro e w2 ⟨rfl, u⟩
  have HX2 := Lib.hid (HX.out.trans u)
  have hbt := Ext.blk u HBX.out
  have t0 := cell_of_blk hbt 0
  have t1 := cell_of_blk hbt 1
  simp only [List.size_toArray, List.getElem?_toArray, List.getElem?_cons_zero, List.getElem?_cons_succ] at t0 t1
  have HS2 := Lib.hid (HS.out.ext HX2.out)
  have CT := take_any a zs cap c HS2.out.blk (HH.out.ext HX2.out) HZ.out
  clear u C hbt m0
  go_wp2_with fail
  refine CT.mono ?_
  rintro e w3 ⟨rfl, tv, hb, hr, hg, u⟩
  have HB3 := Lib.hid hb
  have HR3 := Lib.hid hr
  have HU3 := Lib.hid u
  have HGG := Lib.hid hg
  clear hb hr hg u CT
  go_wp2_with fail
  go_ret
  exact ⟨rfl, tv, ⟨HB3.out, HS2.out.tex.upd HU3.out (fun e => HS2.out.ne (show mb = b from e).symm), HR3.out, HM.out⟩, fun g hg => Nat.le_trans HX2.out.size (HGG.out g hg), (Upd.ext HX2.out (one b)).trans HU3.out⟩
theorem counts_any {b mb : Nat} {tv : Value} {x : StD} {w : World} (H : StAt w b mb tv x) :
    Calls Tryd.prog 10 #[.pointer (some ⟨b, 0, none⟩)] w fun e w' => e = .returned (.tuple #[.int .i64 x.nr, .int .i64 x.nw]) ∧ Ext w w' := by
  have c3 := cell_of_blk H.blk 3
  have c4 := cell_of_blk H.blk 4
  simp only [stRow, List.size_toArray, List.getElem?_toArray, List.getElem?_cons_zero, List.getElem?_cons_succ] at c3 c4
  clear H
  go_enter Tryd.func10, Tryd.ntmps10
  go_wp2_with fail
  go_quiet (fail)
  go_wp2_with fail
  go_ret2
  exact ⟨rfl, (Upd.refl _ _).drewN _⟩
theorem dead_any {b mb : Nat} {tv : Value} {x : StD} {w : World} (H : StAt w b mb tv x) :
    Calls Tryd.prog 11 #[.pointer (some ⟨b, 0, none⟩)] w fun e w' => e = .returned (.bool x.dead) ∧ Ext w w' := by
  have c5 := cell_of_blk H.blk 5
  simp only [stRow, List.size_toArray, List.getElem?_toArray, List.getElem?_cons_zero, List.getElem?_cons_succ] at c5
  clear H
  go_enter Tryd.func11, Tryd.ntmps11
  go_wp2_with fail
  go_ret
  exact ⟨rfl, Upd.refl _ _⟩
end Go.Proofs.YtdkhnkhflbefbaaDoor
