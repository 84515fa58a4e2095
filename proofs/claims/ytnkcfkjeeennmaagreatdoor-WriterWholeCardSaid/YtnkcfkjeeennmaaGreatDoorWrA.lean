/- writer.there, puts, fits, long, Checkpoint by contracts. A checkpoint built out of an origin and a hash; a writer's cells. Two levels more in a growth: plain lemmas for the walk of growth.add. growth.add by contract. -/
import Derived.Test.YtnkcfkjeeennmaaGreatDoorDec
import Derived.Test.YtnkcfkjeeennmaaGreatDoorStNames
import Derived.Test.YtnkcfkjeeennmaaGreatDoorStNone
import Derived.Test.YtnkcfkjeeennmaaGreatDoorTxt
import Derived.Test.YtnkcfkjeeennmaaGreatDoorShaU
import Derived.Test.YtnkcfkjeeennmaaGreatDoorCtz
import Derived.Test.YtnkcfkjeeennmaaGreatDoorGrW
namespace Go.Proofs.YtnkcfkjeeennmaaGreatDoor
open Go.RowKit Go.Lib


set_option maxRecDepth 8000 in
theorem put_no {B b mb : Nat} {se : Nat → Addr} {tv : Value} {x : StD} {w : World} (G : Genv B se w) (H : StAt w b mb tv x) (s t : ByteArray) (k : Nat) (hr : x.refuse s = some (k, none)) :
    Calls Tryz.prog 45 #[.pointer (some ⟨b, 0, none⟩), .string s, .string t] w fun e w' => e = .returned (sv se k) ∧ w = w' := by
  have C := refused_any G H s
  rw [hr] at C
  change Calls _ _ _ _ (fun e w' => e = .returned (sv se k) ∧ w = w') at C
  clear G H hr
  go_enter Tryz.func45, Tryz.ntmps45
  go_wp2_with fail
  refine C.mono ?_
  rintro e w1 ⟨rfl, rfl⟩
  go_wp2_with fail
  go_ret
  exact ⟨rfl, rfl⟩
theorem body_put : hasBody Tryz.prog 45 = true := by kernel_rfl
theorem body_is : hasBody Tryz.prog 106 = true := by kernel_rfl
/-- Is a store there? -/
theorem there_gen {B : Nat} {se : Nat → Addr} {w : World} (G : Genv B se w) (p : Value) (k : Nat) (h1 : 1 ≤ k) (h2 : k ≤ 16)
    (C : ∀ w', Ext w w' → Calls Tryz.prog 45 #[p, .string ⟨#[]⟩, .string ⟨#[]⟩] w' fun e w'' => e = .returned (sv se k) ∧ w' = w'') :
    Calls Tryz.prog 56 #[p] w fun e w' => e = .returned (.bool (!decide (k = 1))) ∧ Ext w w' := by
  have HC := Lib.hid C
  have HG := Lib.hid G
  clear C G
  go_enter Tryz.func56, Tryz.ntmps56
  go_wp2_with fail
  refine region_inv_tail 5 (fun w' => Ext w w') (by kernel_rfl) (by kernel_rfl) (by kernel_rfl) (by kernel_rfl) (by kernel_rfl) (by kernel_rfl) ((Upd.refl none' w).drew) ?_
  simp only [List.take_succ_cons, List.take_zero, List.drop_succ_cons, List.drop_zero]
  refine inv_move rfl rfl p rfl ?_
  refine inv_norm (by go_simp; exact rfl) ?_
  refine inv_call (v := sv se k) rfl 45 [.tmp 3, .const (.string ⟨#[]⟩), .const (.string ⟨#[]⟩)] _ rfl body_put [p, .string ⟨#[]⟩, .string ⟨#[]⟩] rfl (fun w7 h7 => (HC.out w7 h7).mono (by rintro e w8 ⟨rfl, rfl⟩; exact ⟨rfl, h7⟩)) ?_
  refine inv_norm (by go_simp; exact rfl) ?_
  refine inv_load1 rfl rfl ⟨0, 0, none⟩ (sv se 1) rfl Tryz.underlying38 rfl (fun w7 h7 => (HG.out.ext h7).cell 1 (by omega) (by omega)) ?_
  refine inv_norm (by go_simp; exact rfl) ?_
  refine inv_call (v := .bool (decide (k = 1))) rfl 106 [.tmp 4, .tmp 5] _ rfl body_is [sv se k, sv se 1] rfl (fun w7 h7 => (is_any (HG.out.ext h7) (k := k) (p := none) ⟨h1, h2, rfl⟩ 1 (by omega) (by omega)).mono (by rintro e w8 ⟨rfl, rfl⟩; exact ⟨rfl, h7⟩)) ?_
  refine inv_norm (by go_simp; exact rfl) ?_
  refine inv_not rfl rfl _ rfl ?_
  refine inv_norm (by go_simp; exact rfl) ?_
  refine inv_nil ?_
  intro w5 h5
  have H5 := Lib.hid (show Ext w w5 from h5)
  clear h5
  go_wp2_with fail
  go_ret
  exact ⟨rfl, H5.out⟩
theorem there_st {B b mb : Nat} {se : Nat → Addr} {tv : Value} {x : StD} {w : World} (G : Genv B se w) (H : StAt w b mb tv x) :
    Calls Tryz.prog 56 #[.pointer (some ⟨b, 0, none⟩)] w fun e w' => e = .returned (.bool true) ∧ Ext w w' :=
  there_gen G _ 2 (by omega) (by omega) (fun w' u => put_no (G.ext u) (H.ext u) ⟨#[]⟩ ⟨#[]⟩ 2 (by rfl))
/-- What the package-level variables hold that the writer reads, in every world that keeps the blocks below B. -/
structure Env (B : Nat) (se : Nat → Addr) (w : World) : Prop where
  g : Genv B se w
  sg : 21 < B
  all : ∀ w', Below B w w' → BlankTab w' ∧ Lib.Utf8Tabs 17 18 w' ∧ Tab10 w' ∧ ShaTab w' ∧ TabAt 20 Lib.deBruijn64tab w'
theorem Env.below {B : Nat} {se : Nat → Addr} {w w' : World} (h : Env B se w) (k : Below B w w') : Env B se w' := ⟨h.g.below k, h.sg, fun w'' k2 => h.all w'' (k.trans k2)⟩
theorem Env.ext {B : Nat} {se : Nat → Addr} {w w' : World} (h : Env B se w) (u : Ext w w') : Env B se w' := h.below (Ext.below u h.g.size)
theorem Env.upd {B : Nat} {se : Nat → Addr} {w w' : World} {S : Nat → Prop} (h : Env B se w) (u : Upd S w w') (hS : ∀ k, S k → B ≤ k) : Env B se w' := h.below (Upd.below u h.g.size hS)
theorem Env.bt {B : Nat} {se : Nat → Addr} {w : World} (h : Env B se w) : BlankTab w := (h.all w (Below.refl _ _)).1
theorem Env.ut {B : Nat} {se : Nat → Addr} {w : World} (h : Env B se w) : Lib.Utf8Tabs 17 18 w := (h.all w (Below.refl _ _)).2.1
theorem Env.t10 {B : Nat} {se : Nat → Addr} {w : World} (h : Env B se w) : Tab10 w := (h.all w (Below.refl _ _)).2.2.1
theorem Env.sh {B : Nat} {se : Nat → Addr} {w : World} (h : Env B se w) : ShaTab w := (h.all w (Below.refl _ _)).2.2.2.1
theorem Env.tz {B : Nat} {se : Nat → Addr} {w : World} (h : Env B se w) : TabAt 20 Lib.deBruijn64tab w := (h.all w (Below.refl _ _)).2.2.2.2
theorem Env.sgw {B : Nat} {se : Nat → Addr} {w : World} (h : Env B se w) : 21 < w.heap.size := Nat.lt_of_lt_of_le h.sg h.g.size
def headB : List UInt8 := [99, 104, 101, 99, 107, 112, 111, 105, 110, 116]
theorem ck_len (o : List UInt8) (n : Nat) (root : HB) (hr : root.length = 32) : (ckC o n root).length = 35 := by simp [ckC, hr]
theorem ck_size (o : List UInt8) (n : Nat) (root : HB) (hr : root.length = 32) : (Tryz.prog.info? 32).map (·.size) = some (ckC o n root).length := by
  rw [ck_len o n root hr]
  kernel_rfl
theorem ckpt_len (o : List UInt8) (n : Nat) (root : HB) (ho : o.length ≤ 64) (hn : n ≤ 1048576) (hr : root.length = 32) : (ckptB o n root).length ≤ 200 := by
  have h1 := dec_len n (by omega)
  have h2 := b64_len root
  unfold ckptB
  simp only [List.length_append, List.length_singleton]
  omega
set_option maxRecDepth 20000 in
set_option maxHeartbeats 4000000 in
theorem puts_any {B b mb : Nat} {se : Nat → Addr} {tv : Value} {x : StD} {w : World} (E : Env B se w) (H : StAt w b mb tv x) (hB : B ≤ b) (hM : B ≤ mb) (o : List UInt8) (n : Nat) (root : HB) (hr : root.length = 32) (ho : nameB o = true) (hol : o.length ≤ 64) (hn : n ≤ 1048576) (hnw : x.nw < 4611686018427387904) (hL : x.texts.length < 4611686018427387904) :
    Calls Tryz.prog 53 #[.pointer (some ⟨b, 0, none⟩), ckV o n root] w (PutPost se b mb tv w (x.put (str headB) (str (ckptB o n root)))) := by
  have X0 := (Upd.refl none' w).alloc (.cells (ckC o n root).toArray 32)
  have HQ := Lib.hid (blk_alloc w (.cells (ckC o n root).toArray 32))
  have HX := Lib.hid X0
  have HCS := Lib.hid (ck_size o n root hr)
  have HC := Lib.hid (blk_cells HQ.out)
  have C := format_any (w.alloc (.cells (ckC o n root).toArray 32)) o n root hr ho hol hn (E.ext X0).bt (E.ext X0).ut (E.ext X0).t10
  have HE := Lib.hid E
  have HH := Lib.hid H
  have HBM := Lib.hid (⟨hB, hM⟩ : B ≤ b ∧ B ≤ mb)
  have HT := Lib.hid (ckpt_len o n root hol hn hr)
  have HNW := Lib.hid hnw
  have HLL := Lib.hid hL
  generalize hr0 : x.put (str headB) (str (ckptB o n root)) = r at *
  have HR0 := Lib.hid hr0
  clear E H hB hM X0 hr ho hol hn hnw hL hr0
  go_enter Tryz.func53, Tryz.ntmps53
  go_wp2_with (refine wpList_loadAgg rfl 32 _ rfl w.heap.size 0 rfl (ckC o n root) Tryz.underlying32 rfl HCS.out HC.out ?_)
  refine C.mono ?_
  rintro e w1 ⟨rfl, hx1⟩
  have HX1 := Lib.hid (HX.out.trans hx1)
  clear hx1 C
  have CP := put_any (HE.out.ext HX1.out).g (HH.out.ext HX1.out) HBM.out.1 HBM.out.2 (str headB) (str (ckptB o n root)) (by rw [str_size]; unfold maxLen; decide) (by rw [str_size]; have := HT.out; unfold maxLen; omega) HNW.out HLL.out
  rw [HR0.out] at CP
  go_wp2_with fail
  refine CP.mono ?_
  rintro e w2 ⟨rfl, hs, hu⟩
  have HS := Lib.hid hs
  have HU := Lib.hid (show Upd (two b mb) w w2 from (Upd.ext HX1.out (two b mb)).trans hu)
  clear hs hu CP
  go_wp2_with fail
  go_ret
  exact ⟨rfl, HS.out, HU.out⟩

theorem ck_one (o : List UInt8) (n : Nat) (root : HB) : ∀ u ∈ ckC o n root, u.oneCell' = true := fun u hu => by
  simp only [ckC, List.mem_cons, List.mem_append, List.not_mem_nil, or_false] at hu
  rcases hu with rfl | rfl | hu | rfl
  · rfl
  · rfl
  · exact u8_ones root u hu
  · rfl
theorem ck_build (o : List UInt8) (k : Int) (root : HB) (hr : root.length = 32) : List.foldl (fun (cs : Array Value) (x : Value × Nat) => cs.setIfInBounds (2 + x.2) x.1) #[.string (str o), .int .u64 k, .int .u8 0, .int .u8 0, .int .u8 0, .int .u8 0, .int .u8 0, .int .u8 0, .int .u8 0, .int .u8 0, .int .u8 0, .int .u8 0, .int .u8 0, .int .u8 0, .int .u8 0, .int .u8 0, .int .u8 0, .int .u8 0, .int .u8 0, .int .u8 0, .int .u8 0, .int .u8 0, .int .u8 0, .int .u8 0, .int .u8 0, .int .u8 0, .int .u8 0, .int .u8 0, .int .u8 0, .int .u8 0, .int .u8 0, .int .u8 0, .int .u8 0, .int .u8 0, .slice none 0 0] ((root.map u8v).zipIdx) = (.string (str o) :: .int .u64 k :: (root.map u8v ++ [.slice none 0 0])).toArray := by
  have h := fold_over 2 (root.map u8v) 0 (.string (str o) :: .int .u64 k :: (zero32.toList ++ [.slice none 0 0])) (by simp [hr])
  refine h.trans ?_
  congr 1
  unfold over
  simp [hr]
set_option maxRecDepth 20000 in
theorem run_ck0 (w : World) (o : List UInt8) (root : HB) (hr : root.length = 32) : (Instr.build 32 #[(0, .string (str o)), (2, hashV root)]).run Tryz.prog w = .ok (ckV o 0 root) w := by
  have HB := ck_build o 0 root hr
  go_simp
  rfl
set_option maxRecDepth 20000 in
theorem run_ckN (w : World) (o : List UInt8) (n : Nat) (root : HB) (hr : root.length = 32) : (Instr.build 32 #[(0, .string (str o)), (1, .int .u64 n), (2, hashV root)]).run Tryz.prog w = .ok (ckV o n root) w := by
  have HB := ck_build o n root hr
  go_simp
  rfl
/-- A writer's cells: its store, its checkpoint, its edges, whether it has ended. -/
def wrC (sp : Value) (o : List UInt8) (n : Nat) (root : HB) (ev : Value) (ended : Bool) : List Value := sp :: (ckC o n root ++ [ev, .bool ended])
theorem wr_len (sp : Value) (o : List UInt8) (n : Nat) (root : HB) (ev : Value) (ended : Bool) (hr : root.length = 32) : (wrC sp o n root ev ended).length = 38 := by simp [wrC, ck_len o n root hr]
theorem wr_build (sp : Value) (C : List Value) (hC : C.length = 35) : List.foldl (fun (cs : Array Value) (x : Value × Nat) => cs.setIfInBounds (1 + x.2) x.1) #[sp, .string ⟨#[]⟩, .int .u64 0, .int .u8 0, .int .u8 0, .int .u8 0, .int .u8 0, .int .u8 0, .int .u8 0, .int .u8 0, .int .u8 0, .int .u8 0, .int .u8 0, .int .u8 0, .int .u8 0, .int .u8 0, .int .u8 0, .int .u8 0, .int .u8 0, .int .u8 0, .int .u8 0, .int .u8 0, .int .u8 0, .int .u8 0, .int .u8 0, .int .u8 0, .int .u8 0, .int .u8 0, .int .u8 0, .int .u8 0, .int .u8 0, .int .u8 0, .int .u8 0, .int .u8 0, .int .u8 0, .slice none 0 0, .slice none 0 0, .bool false] (C.zipIdx) = (sp :: (C ++ [.slice none 0 0, .bool false])).toArray := by
  have h := fold_over 1 C 0 (sp :: ([.string ⟨#[]⟩, .int .u64 0, .int .u8 0, .int .u8 0, .int .u8 0, .int .u8 0, .int .u8 0, .int .u8 0, .int .u8 0, .int .u8 0, .int .u8 0, .int .u8 0, .int .u8 0, .int .u8 0, .int .u8 0, .int .u8 0, .int .u8 0, .int .u8 0, .int .u8 0, .int .u8 0, .int .u8 0, .int .u8 0, .int .u8 0, .int .u8 0, .int .u8 0, .int .u8 0, .int .u8 0, .int .u8 0, .int .u8 0, .int .u8 0, .int .u8 0, .int .u8 0, .int .u8 0, .int .u8 0, .slice none 0 0] ++ [.slice none 0 0, .bool false])) (by simp [hC])
  refine h.trans ?_
  congr 1
  unfold over
  simp [hC]
set_option maxRecDepth 20000 in
theorem run_wr (w : World) (g : Nat) (C : List Value) (hC : C.length = 35) : (Instr.build 35 #[(0, .pointer (some ⟨g, 0, none⟩)), (1, .agg C.toArray)]).run Tryz.prog w = .ok (.agg (.pointer (some ⟨g, 0, none⟩) :: (C ++ [.slice none 0 0, .bool false])).toArray) w := by
  have HB := wr_build (.pointer (some ⟨g, 0, none⟩)) C hC
  go_simp
theorem exec_build {P : Program} {o : Oper} {a : Act} (w : World) {t : TypeId} (l : List (Nat × Operand)) (ho : o.op = .build t l.toArray) (vals : List (Nat × Value)) (v : Value) (hp : l.map (fun x => (x.1, a.eval x.2)) = vals) (hr : (Instr.build t vals.toArray).run P w = .ok v w) : (execOp a.eval o).run P w = .ok (.value v) w := by
  have hp2 : (l.toArray.map fun (i, x) => (i, a.eval x)) = vals.toArray := by rw [← hp, List.map_toArray]
  simp only [execOp, ho, hp2, Sem.run_bind, hr, Result.andThen_ok]
  rfl

/-- Blocks that hold elements of type T stay as they are. -/
def Keeps (T : TypeId) (w w' : World) : Prop := ∀ (b : Nat) (cs : Array Value) (f : Nat × Nat), w.heap[b]? = some (Obj.cells cs T f) → w'.heap[b]? = some (Obj.cells cs T f)
theorem Keeps.refl (T : TypeId) (w : World) : Keeps T w w := fun _ _ _ h => h
theorem Keeps.trans {T : TypeId} {w w1 w2 : World} (h : Keeps T w w1) (h' : Keeps T w1 w2) : Keeps T w w2 := fun b cs f hb => h' b cs f (h b cs f hb)
theorem keeps_tys {T : TypeId} {S : Nat → Prop} {w w' : World} {Ts : List TypeId} (u : Upd S w w') (hS : TysIn S w Ts) (hne : T ∉ Ts) : Keeps T w w' := fun _ _ _ h => blk_tys h u hS hne
theorem own_keeps {w w' : World} {B e size n : Nat} {v : Value} {xs : List Value} (h : w.ownsRow B e size v n xs) (k : Keeps e w w') : w'.ownsRow B e size v n xs := by
  refine ⟨h.1, ?_⟩
  rcases h.2 with h0 | ⟨g, cap, cur, hv, hb, hg, h1⟩
  · exact .inl h0
  · exact .inr ⟨g, cap, cur, hv, hb, k _ _ _ hg, h1⟩
/-- What a growth is made of. -/
def grTys : List TypeId := [106, 170, 30, 65, 112, 117, 4]
/-- All other blocks stay as they are. -/
def KeepsG (w w' : World) : Prop := ∀ T, T ∉ grTys → Keeps T w w'
theorem KeepsG.refl (w : World) : KeepsG w w := fun T _ => Keeps.refl T w
theorem KeepsG.trans {w w1 w2 : World} (h : KeepsG w w1) (h' : KeepsG w1 w2) : KeepsG w w2 := fun T hT => (h T hT).trans (h' T hT)
theorem keepsG_tys {S : Nat → Prop} {w w' : World} {Ts : List TypeId} (u : Upd S w w') (hS : TysIn S w Ts) (h : ∀ T ∈ Ts, T ∈ grTys) : KeepsG w w' := fun _ hT => keeps_tys u hS (fun e => hT (h _ e))
theorem KeepsG.ext {w w' : World} (u : Ext w w') : KeepsG w w' := keepsG_tys u tys_none (by simp)
theorem nodeT : 179 ∉ grTys := by decide
/-- The length of the slice in a growth's last cell. -/
def lenT (gb : Nat) (w : World) : Nat := match w.cell? ⟨gb, 3, none⟩ with | some (.slice _ n _) => n | _ => 0
/-- The cells of a new block of one element. -/
theorem newc {w : World} {g : Nat} {v : Value} {e : TypeId} {f : Nat × Nat} (h : w.heap[g]? = some (.cells #[v] e f)) : ∀ i u, ([v] : List Value)[i]? = some u → w.cell? ((⟨g, 0, none⟩ : Addr).add i) = some u := fun i u hu => by
  rw [show (⟨g, 0, none⟩ : Addr).add i = ⟨g, i, none⟩ from by unfold Addr.add; split <;> simp_all, cell_of_blk h]
  simpa using hu
theorem blk_at {w : World} {v : Value} {e : TypeId} {g : Nat} (h : w.heap.size = g) : (w.alloc (.cells #[v] e)).heap[g]? = some (.cells #[v] e (0, 0)) := h ▸ blk_alloc w (.cells #[v] e)
theorem bool_one : ∀ u ∈ ([.bool false] : List Value), u.oneCell' = true := fun u hu => by rw [List.mem_singleton.1 hu]; rfl
theorem size_bools : (Tryz.prog.info? 104).map (·.size) = some 1 := by kernel_rfl
theorem size_laids : (Tryz.prog.info? 103).map (·.size) = some 1 := by kernel_rfl
theorem info_bool : (Tryz.prog.info? 4).map (fun i => (i.zero, i.size, i.bytes)) = some (some (.bool false), 1, 1) := by kernel_rfl
theorem info_lsl : (Tryz.prog.info? 112).map (fun i => (i.zero, i.size, i.bytes)) = some (some nilS, 1, 24) := by kernel_rfl
theorem moreT_fin {B gb : Nat} {w wn : World} {V : GrV} {D : GrD} {A : Option Addr} {c : Nat} {dv' : Value} (h : GrAt B w gb V D) (u : Upd (fun g => g = gb ∨ V.tv.ownBlock = some g ∨ V.dv.ownBlock = some g) w wn)
    (hb : wn.heap[gb]? = some (.cells #[.pointer (some ⟨V.bb, 0, none⟩), V.ev, V.dv, V.tv] 106 (0, 0)))
    (ht : wn.ownsRow B 4 1 (.slice A (D.ts.length + 1) c) (D.ts.length + 1) (D.ts.map Value.bool ++ [.bool false])) (hd : wn.ownsRow B 112 1 dv' (D.ls.length + 1) (V.dvs ++ [nilS])) :
    GrAt B ((wn.setCell ⟨gb, 3, none⟩ (.slice A (D.ts.length + 1) c)).setCell ⟨gb, 2, none⟩ dv') gb { V with dv := dv', tv := .slice A (D.ts.length + 1) c, dvs := V.dvs ++ [nilS] } { D with ls := D.ls ++ [[]], ts := D.ts ++ [false] } ∧
      Upd (fun g => B ≤ g) w ((wn.setCell ⟨gb, 3, none⟩ (.slice A (D.ts.length + 1) c)).setCell ⟨gb, 2, none⟩ dv') ∧ lenT gb ((wn.setCell ⟨gb, 3, none⟩ (.slice A (D.ts.length + 1) c)).setCell ⟨gb, 2, none⟩ dv') = D.ts.length + 1 ∧ KeepsG w ((wn.setCell ⟨gb, 3, none⟩ (.slice A (D.ts.length + 1) c)).setCell ⟨gb, 2, none⟩ dv') := by
  have b1 := blk_set hb 3 (.slice A (D.ts.length + 1) c)
  have b2 := blk_set b1 2 dv'
  have u2 : Upd (one gb) wn ((wn.setCell ⟨gb, 3, none⟩ (.slice A (D.ts.length + 1) c)).setCell ⟨gb, 2, none⟩ dv') := ((Upd.refl (one gb) wn).setCell (p := ⟨gb, 3, none⟩) (.inr rfl) _).setCell (p := ⟨gb, 2, none⟩) (.inr rfl) _
  have u3 := u.trans (u2.mono (fun g _ hg => Or.inl hg))
  have hT : TysIn (fun g => g = gb ∨ V.tv.ownBlock = some g ∨ V.dv.ownBlock = some g) w [106, 112, 4] := fun g _ hg => by
    rcases hg with e | e | e
    · exact ⟨_, 106, _, by simp, by rw [e]; exact h.blk⟩
    · obtain ⟨c, hc⟩ := rowT h.tr e
      exact ⟨c, 4, _, by simp, hc⟩
    · obtain ⟨c, hc⟩ := rowT h.dr e
      exact ⟨c, 112, _, by simp, hc⟩
  refine ⟨GrAt.moreT h u3 hT b2 (ownsRow_upd hd u2 (fun g hg e => rowNe hd hb (by decide) g hg e)) (ownsRow_upd ht u2 (fun g hg e => rowNe ht hb (by decide) g hg e)), u3.mono (fun g _ hg => ?_), ?_, keepsG_tys u3 hT (by decide)⟩
  · rcases hg with e | e | e
    · rw [e]; exact h.low
    · exact (h.tr.lt g e).1
    · exact (h.dr.lt g e).1
  · unfold lenT
    rw [cell_of_blk b2 3]
    rfl
/-- A level was touched. -/
theorem touch_fin {B gb k tg tc : Nat} {w : World} {V : GrV} {D : GrD} (h : GrAt B w gb V D) (hv : V.tv = .slice (some ⟨tg, 0, none⟩) D.ts.length tc) (hk : k < D.ts.length) :
    GrAt B (w.setCell ⟨tg, k, none⟩ (.bool true)) gb V { D with ts := D.ts.set k true } ∧ Upd (fun g => B ≤ g) w (w.setCell ⟨tg, k, none⟩ (.bool true)) ∧ KeepsG w (w.setCell ⟨tg, k, none⟩ (.bool true)) := by
  have htr := h.tr
  rw [hv] at htr
  have hr := row_set htr k hk (.bool true)
  have u : Upd (one tg) w (w.setCell ⟨tg, k, none⟩ (.bool true)) := (Upd.refl (one tg) w).setCell (p := ⟨tg, k, none⟩) (.inr rfl) _
  have hT : TysIn (one tg) w [4] := fun g _ hg => by
    obtain ⟨c, hc⟩ := rowT htr (g := tg) rfl
    have e : g = tg := hg
    exact ⟨c, 4, _, by simp, by rw [e]; exact hc⟩
  refine ⟨GrAt.touch h u hT (by simp) ?_, u.mono (fun g _ hg => ?_), keepsG_tys u hT (by decide)⟩
  · rw [hv, List.map_set]; exact hr
  · have e : g = tg := hg
    rw [e]; exact (htr.lt tg rfl).1
/-- A hash comes to the edge of level k: the row has grown, its slice is stored. -/
theorem push_fin {B gb k eg ec m : Nat} {w wn : World} {V : GrV} {D : GrD} {A : Option Addr} {c : Nat} {x : HB} (h : GrAt B w gb V D) (hk : k < D.es.length) (hv : V.ev = .slice (some ⟨eg, 0, none⟩) D.es.length ec)
    (u : Upd (fun g => (V.vs.getD k nilS).ownBlock = some g) w wn) (hm : (D.es.getD k []).length = m) (hrow : wn.ownsRow B 30 32 (.slice A (m + 1) c) (m + 1) (hcells (D.es.getD k []) ++ x.map u8v))
    (hat : ∀ g, (Value.slice A (m + 1) c).ownBlock = some g → (V.vs.getD k nilS).ownBlock = some g ∨ w.heap.size ≤ g) :
    GrAt B (wn.setCell ⟨eg, k, none⟩ (.slice A (m + 1) c)) gb { V with vs := V.vs.set k (.slice A (m + 1) c) } { D with es := D.es.set k (D.es.getD k [] ++ [x]) } ∧
      Upd (fun g => B ≤ g) w (wn.setCell ⟨eg, k, none⟩ (.slice A (m + 1) c)) ∧ KeepsG w (wn.setCell ⟨eg, k, none⟩ (.slice A (m + 1) c)) := by
  subst hm
  have her := h.er
  rw [hv] at her
  have h1 := own_ty her u (tyIn_row (h.ee k)) (by decide)
  have h2 := row_set h1 k hk (.slice A ((D.es.getD k []).length + 1) c)
  have u1 : Upd (fun g => (V.vs.getD k nilS).ownBlock = some g ∨ g = eg) w (wn.setCell ⟨eg, k, none⟩ (.slice A ((D.es.getD k []).length + 1) c)) := (u.mono (T := fun g => (V.vs.getD k nilS).ownBlock = some g ∨ g = eg) (fun g _ hg => Or.inl hg)).setCell (p := ⟨eg, k, none⟩) (.inr (.inr rfl)) _
  obtain ⟨ce, hce⟩ := rowT her (g := eg) rfl
  have hee := ownsRow_upd (T := one eg) hrow ((Upd.refl (one eg) wn).setCell (p := ⟨eg, k, none⟩) (.inr rfl) (.slice A ((D.es.getD k []).length + 1) c)) (fun g hg e => by
    obtain ⟨c1, hc1⟩ := rowT h1 (g := eg) rfl
    exact rowNe hrow hc1 (by decide) g hg e)
  have hT : TysIn (fun g => (V.vs.getD k nilS).ownBlock = some g ∨ g = eg) w [30, 65] := fun g _ hg => by
    rcases hg with e | e
    · obtain ⟨c, hc⟩ := rowT (h.ee k) e
      exact ⟨c, _, _, by simp, hc⟩
    · rw [e]; exact ⟨ce, _, _, by simp, hce⟩
  refine ⟨GrAt.pushE h hk u1 (fun g _ hg => ?_) (by rw [hv]; exact h2) (by rw [show hcells (D.es.getD k [] ++ [x]) = hcells (D.es.getD k []) ++ x.map u8v by simp [hcells]]; exact hee) hat, u1.mono (fun g _ hg => ?_), keepsG_tys u1 hT (by decide)⟩
  · rcases hg with e | e
    · exact .inl e
    · rw [e]; exact .inr ⟨ce, _, hce⟩
  · rcases hg with e | e
    · exact ((h.ee k).lt g e).1
    · rw [e]; exact (her.lt eg rfl).1
/-- The edge of level k is whole: a tile more, and an empty edge. -/
theorem full_fin {B gb k i eg ec lg dc m : Nat} {w wn : World} {V : GrV} {D : GrD} {A : Option Addr} {c : Nat} (h : GrAt B w gb V D) (hk : k < D.es.length) (hkl : k < D.ls.length) (hv : V.ev = .slice (some ⟨eg, 0, none⟩) D.es.length ec) (hd : V.dv = .slice (some ⟨lg, 0, none⟩) D.ls.length dc)
    (u : Upd (fun g => (V.dvs.getD k nilS).ownBlock = some g) w wn) (hm : (D.ls.getD k []).length = m) (hrow : wn.ownsRow B 117 4 (.slice A (m + 1) c) (m + 1) (laidCs (D.ls.getD k []) ++ [.int .u8 k, .int .u64 i, .int .i64 256, V.vs.getD k nilS]))
    (hat : ∀ g, (Value.slice A (m + 1) c).ownBlock = some g → (V.dvs.getD k nilS).ownBlock = some g ∨ w.heap.size ≤ g) :
    GrAt B ((wn.setCell ⟨lg, k, none⟩ (.slice A (m + 1) c)).setCell ⟨eg, k, none⟩ nilS) gb { V with vs := V.vs.set k nilS, dvs := V.dvs.set k (.slice A (m + 1) c) } { D with es := D.es.set k [], ls := D.ls.set k (D.ls.getD k [] ++ [⟨k, i, 256, D.es.getD k [], V.vs.getD k nilS⟩]) } ∧
      Upd (fun g => B ≤ g) w ((wn.setCell ⟨lg, k, none⟩ (.slice A (m + 1) c)).setCell ⟨eg, k, none⟩ nilS) ∧ KeepsG w ((wn.setCell ⟨lg, k, none⟩ (.slice A (m + 1) c)).setCell ⟨eg, k, none⟩ nilS) := by
  subst hm
  have her := h.er
  have hdr := h.dr
  rw [hv] at her
  rw [hd] at hdr
  obtain ⟨ce, hce⟩ := rowT her (g := eg) rfl
  obtain ⟨cl, hcl⟩ := rowT hdr (g := lg) rfl
  have e1 := own_ty her u (tyIn_row (h.de k)) (by decide)
  have d1 := own_ty hdr u (tyIn_row (h.de k)) (by decide)
  obtain ⟨ce1, hce1⟩ := rowT e1 (g := eg) rfl
  obtain ⟨cl1, hcl1⟩ := rowT d1 (g := lg) rfl
  have ul : Upd (one lg) wn (wn.setCell ⟨lg, k, none⟩ (.slice A ((D.ls.getD k []).length + 1) c)) := (Upd.refl (one lg) wn).setCell (p := ⟨lg, k, none⟩) (.inr rfl) _
  have d2 := row_set d1 k hkl (.slice A ((D.ls.getD k []).length + 1) c)
  have e2 := ownsRow_upd (T := one lg) e1 ul (fun g hg e => rowNe e1 hcl1 (by decide) g hg e)
  have r2 := ownsRow_upd (T := one lg) hrow ul (fun g hg e => rowNe hrow hcl1 (by decide) g hg e)
  obtain ⟨ce2, hce2⟩ := rowT e2 (g := eg) rfl
  have ue : Upd (one eg) (wn.setCell ⟨lg, k, none⟩ (.slice A ((D.ls.getD k []).length + 1) c)) ((wn.setCell ⟨lg, k, none⟩ (.slice A ((D.ls.getD k []).length + 1) c)).setCell ⟨eg, k, none⟩ nilS) := (Upd.refl (one eg) _).setCell (p := ⟨eg, k, none⟩) (.inr rfl) _
  have e3 := row_set e2 k hk nilS
  have d3 := ownsRow_upd (T := one eg) d2 ue (fun g hg e => rowNe d2 hce2 (by decide) g hg e)
  have r3 := ownsRow_upd (T := one eg) r2 ue (fun g hg e => rowNe r2 hce2 (by decide) g hg e)
  have u1 : Upd (fun g => (V.dvs.getD k nilS).ownBlock = some g ∨ g = lg ∨ g = eg) w ((wn.setCell ⟨lg, k, none⟩ (.slice A ((D.ls.getD k []).length + 1) c)).setCell ⟨eg, k, none⟩ nilS) := ((u.mono (T := fun g => (V.dvs.getD k nilS).ownBlock = some g ∨ g = lg ∨ g = eg) (fun g _ hg => Or.inl hg)).setCell (p := ⟨lg, k, none⟩) (.inr (.inr (.inl rfl))) _).setCell (p := ⟨eg, k, none⟩) (.inr (.inr (.inr rfl))) _
  have hT : TysIn (fun g => (V.dvs.getD k nilS).ownBlock = some g ∨ g = lg ∨ g = eg) w [117, 112, 65] := fun g _ hg => by
    rcases hg with e | e | e
    · obtain ⟨c, hc⟩ := rowT (h.de k) e
      exact ⟨c, _, _, by simp, hc⟩
    · rw [e]; exact ⟨cl, _, _, by simp, hcl⟩
    · rw [e]; exact ⟨ce, _, _, by simp, hce⟩
  refine ⟨GrAt.full h hk hkl u1 (fun g _ hg => ?_) (by rw [hv]; exact e3) (by rw [hd]; exact d3) (by rw [show laidCs (D.ls.getD k [] ++ [⟨k, i, 256, D.es.getD k [], V.vs.getD k nilS⟩]) = laidCs (D.ls.getD k []) ++ [.int .u8 k, .int .u64 i, .int .i64 256, V.vs.getD k nilS] by simp [laidCs, laidC]]; exact r3) hat, u1.mono (fun g _ hg => ?_), keepsG_tys u1 hT (by decide)⟩
  · rcases hg with e | e | e
    · exact .inl e
    · rw [e]; exact .inr ⟨cl, 112, _, by simp, hcl⟩
    · rw [e]; exact .inr ⟨ce, 65, _, by simp, hce⟩
  · rcases hg with e | e | e
    · exact ((h.de k).lt g e).1
    · rw [e]; exact (hdr.lt lg rfl).1
    · rw [e]; exact (her.lt eg rfl).1
section
variable {P : Program} {a : Act} {o : Oper}
/-- The place of a slice's element. -/
theorem run_ixSl (w : World) {x ix : Operand} {t : TypeId} (ho : o.op = .indexAddr t x ix) (g len cap k : Nat) (e : TypeId) (hx : a.eval x = .slice (some ⟨g, 0, none⟩) len cap) (hi : a.eval ix = .int .i64 k) (hk : k < len)
    (hu : P.underlying t = some (.slice e)) (hs : (P.info? e).map (·.size) = some 1) : (execOp a.eval o).run P w = .ok (.value (.pointer (some ⟨g, k, none⟩))) w := by
  have hadd : (⟨g, 0, none⟩ : Addr).add k = ⟨g, k, none⟩ := by unfold Addr.add; split <;> simp_all
  cases hq : P.info? e with
  | none => simp [hq] at hs
  | some i =>
    have his : i.size = 1 := by simpa [hq] using hs
    have hk2 : (0 : Int) ≤ (k : Int) ∧ (k : Int) < len := by omega
    simp [execOp, ho, hx, hi, Instr.indexAt, run_underlying hu, asIntOf, sizeOf, typeInfo, hq, his, hk2, hk, hadd]
/-- A struct or an array out of memory. -/
theorem run_ldA (w : World) {x : Operand} {ty : TypeId} (ho : o.op = .load ty x) (g off : Nat) (hx : a.eval x = .pointer (some ⟨g, off, none⟩)) (vs : List Value) {d : TypeDesc} (hu : P.underlying ty = some d) (hd : aggD d = true) (hi : (P.info? ty).map (·.size) = some vs.length)
    (hc : ∀ j v, vs[j]? = some v → w.cell? ⟨g, off + j, none⟩ = some v) : (execOp a.eval o).run P w = .ok (.value (.agg vs.toArray)) w := by
  simp only [execOp, ho, hx, Instr.loadAt, Instr.sureAddr, Sem.run_bind, Sem.run_pure, Result.andThen_ok, run_loadVar_at g off ty vs hu hd hi hc]
end
/-- What the region that adds to an edge reads. -/
structure EdS (gb eg ne ec k nb : Nat) (vk : Value) (x : HB) (w : World) : Prop where
  e : w.cell? ⟨gb, 1, none⟩ = some (.slice (some ⟨eg, 0, none⟩) ne ec)
  c : w.cell? ⟨eg, k, none⟩ = some vk
  h : ∀ j v, (x.map u8v)[j]? = some v → w.cell? ⟨nb, 2 + j, none⟩ = some v
theorem EdS.of {gb eg ne ec k nb B J I bb : Nat} {dv tv : Value} {x : HB} {w : World} {vs : List Value} (hb : w.heap[gb]? = some (.cells #[.pointer (some ⟨bb, 0, none⟩), .slice (some ⟨eg, 0, none⟩) ne ec, dv, tv] 106 (0, 0)))
    (her : w.ownsRow B 65 1 (.slice (some ⟨eg, 0, none⟩) ne ec) ne vs) (hn : w.heap[nb]? = some (.cells (ndc J I x).toArray 179 (0, 0))) (hk : k < ne) : EdS gb eg ne ec k nb (vs.getD k nilS) x w :=
  ⟨cell_of_blk hb 1, by
    have hl := her.1
    have := her.cells (g := eg) rfl k (vs.getD k nilS) (by rw [List.getD_eq_getElem?_getD, List.getElem?_eq_getElem (by omega)]; rfl)
    rwa [Addr.add_lit, Nat.zero_add] at this, fun j v hv => by
    rw [cell_of_blk hn, List.getElem?_toArray]
    show (Value.int .u8 J :: .int .u64 I :: x.map u8v)[2 + j]? = some v
    rw [show 2 + j = j + 2 by omega]
    exact hv⟩
/-- What the region that lays a whole tile reads. -/
structure FuS (gb eg ne ec lg nl lc k nb I : Nat) (vk dk : Value) (w : World) : Prop where
  e : w.cell? ⟨gb, 1, none⟩ = some (.slice (some ⟨eg, 0, none⟩) ne ec)
  c : w.cell? ⟨eg, k, none⟩ = some vk
  d : w.cell? ⟨gb, 2, none⟩ = some (.slice (some ⟨lg, 0, none⟩) nl lc)
  l : w.cell? ⟨lg, k, none⟩ = some dk
  n : w.cell? ⟨nb, 1, none⟩ = some (.int .u64 I)
theorem FuS.of {gb eg ne ec lg nl lc k nb B J I bb : Nat} {tv : Value} {x : HB} {w : World} {vs ds : List Value} (hb : w.heap[gb]? = some (.cells #[.pointer (some ⟨bb, 0, none⟩), .slice (some ⟨eg, 0, none⟩) ne ec, .slice (some ⟨lg, 0, none⟩) nl lc, tv] 106 (0, 0)))
    (her : w.ownsRow B 65 1 (.slice (some ⟨eg, 0, none⟩) ne ec) ne vs) (hdr : w.ownsRow B 112 1 (.slice (some ⟨lg, 0, none⟩) nl lc) nl ds) (hn : w.heap[nb]? = some (.cells (ndc J I x).toArray 179 (0, 0))) (hk : k < ne) (hkl : k < nl) : FuS gb eg ne ec lg nl lc k nb I (vs.getD k nilS) (ds.getD k nilS) w :=
  have E := EdS.of hb her hn hk
  ⟨E.e, E.c, cell_of_blk hb 2, by
    have hl := hdr.1
    have := hdr.cells (g := lg) rfl k (ds.getD k nilS) (by rw [List.getD_eq_getElem?_getD, List.getElem?_eq_getElem (by omega)]; rfl)
    rwa [Addr.add_lit, Nat.zero_add] at this, by
    rw [cell_of_blk hn, List.getElem?_toArray]
    rfl⟩
set_option maxRecDepth 20000 in
theorem run_tile (w : World) (k q n : Int) : (Instr.build 115 #[(0, .int .u8 k), (1, .int .u64 q), (2, .int .i64 n)]).run Tryz.prog w = .ok (.agg #[.int .u8 k, .int .u64 q, .int .i64 n]) w := by
  go_simp
set_option maxRecDepth 20000 in
theorem run_laid (w : World) (k q n : Int) (A : Option Addr) (m c : Nat) : (Instr.build 117 #[(0, .agg #[.int .u8 k, .int .u64 q, .int .i64 n]), (1, .slice A m c)]).run Tryz.prog w = .ok (.agg #[.int .u8 k, .int .u64 q, .int .i64 n, .slice A m c]) w := by
  go_simp
theorem info_laid : (Tryz.prog.info? 117).map (fun i => (i.zero.map (·.cells.size), i.size, i.bytes)) = some (some 4, 4, 48) := by kernel_rfl
theorem laid_parts : ∃ (j0 : TypeInfo) (z : Value), Tryz.prog.info? 117 = some j0 ∧ j0.zero = some z ∧ j0.size = 4 ∧ j0.bytes = 48 ∧ z.cells.size = 4 := by
  have h := info_laid
  cases hq : Tryz.prog.info? 117 with
  | none => rw [hq] at h; cases h
  | some i =>
    rw [hq] at h
    simp only [Option.map_some, Option.some.injEq, Prod.mk.injEq] at h
    obtain ⟨h1, h2, h3⟩ := h
    cases hz : i.zero with
    | none => rw [hz] at h1; cases h1
    | some z =>
      rw [hz] at h1
      exact ⟨i, z, rfl, hz, h2, h3, by simpa using h1⟩
theorem laid_zero : ((Tryz.prog.info? 117).bind (·.zero)).isSome = true := by kernel_rfl
theorem laid_size : (Tryz.prog.info? 117).map (·.size) = some 4 := by kernel_rfl
theorem size_laidSl : (Tryz.prog.info? 112).map (·.size) = some 1 := by kernel_rfl

def padL {α : Type} (l : List α) (n : Nat) (d : α) : List α := l ++ List.replicate (n - l.length) d
theorem padL_len {α : Type} (l : List α) (n : Nat) (d : α) : (padL l n d).length = max l.length n := by
  unfold padL
  rw [List.length_append, List.length_replicate]
  omega
theorem padL_done {α : Type} (l : List α) (n : Nat) (d : α) (h : n ≤ l.length) : padL l n d = l := by
  unfold padL
  rw [Nat.sub_eq_zero_of_le h]; simp
theorem padL_step {α : Type} (l : List α) (n : Nat) (d : α) (h : l.length < n) : padL (l ++ [d]) n d = padL l n d := by
  unfold padL
  obtain ⟨m, hm⟩ : ∃ m, n - l.length = m + 1 := ⟨n - l.length - 1, by omega⟩
  rw [List.length_append, List.length_singleton, show n - (l.length + 1) = m by omega, hm, List.replicate_succ, List.append_assoc]
  rfl
/-- A tile with its hashes, without its memory. -/
abbrev LaidP := Nat × Nat × Nat × List HB
def LaidD.p (x : LaidD) : LaidP := (x.k, x.i, x.wd, x.hs)
structure GrP where
  es : List (List HB)
  ls : List (List LaidP)
  ts : List Bool
def GrD.p (D : GrD) : GrP := ⟨D.es, D.ls.map (fun l => l.map LaidD.p), D.ts⟩
/-- A hash that comes to level k, with its index. -/
def pushP (k : Nat) (x : HB) (i : Nat) (G : GrP) : GrP :=
  let es := padL G.es (k + 1) []
  let ls := padL G.ls (k + 1) []
  let ts := (padL G.ts (k + 1) false).set k true
  if (es.getD k []).length + 1 = 256 then ⟨es.set k [], ls.set k (ls.getD k [] ++ [(k, i / 256, 256, es.getD k [] ++ [x])]), ts⟩ else ⟨es.set k (es.getD k [] ++ [x]), ls, ts⟩
/-- The hashes that come to the levels below m, where a leaf's hash comes to a log of n leaves with the builder's hashes l. -/
def pushes (n : Nat) (l : List HB) (y : HB) (G : GrP) (m : Nat) : GrP := (List.range m).foldl (fun G k => pushP k (cr nodeH l (8 * k) y) (n / 2 ^ (8 * k)) G) G
theorem pushes_succ (n : Nat) (l : List HB) (y : HB) (G : GrP) (m : Nat) : pushes n l y G (m + 1) = pushP m (cr nodeH l (8 * m) y) (n / 2 ^ (8 * m)) (pushes n l y G m) := by
  unfold pushes
  rw [List.range_succ, List.foldl_append]
  rfl
/-- Within bounds. -/
structure okP (M : Nat) (G : GrP) : Prop where
  e : G.es.length ≤ 64
  t : G.ts.length ≤ 64
  lt : G.ls.length = G.ts.length
  l : ∀ k, (G.ls.getD k []).length ≤ M
  h : ∀ k, (G.es.getD k []).length < 256 ∧ H32 (G.es.getD k [])
theorem padL_getD {α : Type} (l : List α) (n k : Nat) (d : α) : (padL l n d).getD k d = l.getD k d := by
  unfold padL
  rw [List.getD_eq_getElem?_getD, List.getD_eq_getElem?_getD]
  rcases Nat.lt_or_ge k l.length with h | h
  · rw [List.getElem?_append_left h]
  · rw [List.getElem?_append_right h, List.getElem?_eq_none h, List.getElem?_replicate]
    split <;> rfl
theorem pushP_ok {M k i : Nat} {x : HB} {G : GrP} (h : okP M G) (hk : k < 64) (hx : x.length = 32) : okP (M + 1) (pushP k x i G) := by
  have he : k < (padL G.es (k + 1) []).length := by rw [padL_len]; omega
  have hl : k < (padL G.ls (k + 1) []).length := by rw [padL_len]; omega
  have h32 : H32 (G.es.getD k [] ++ [x]) := fun z hz => by
    rcases List.mem_append.1 hz with h1 | h1
    · exact (h.h k).2 z h1
    · rw [List.mem_singleton.1 h1]; exact hx
  unfold pushP
  simp only [padL_getD]
  split
  · refine ⟨by simp [padL_len]; have := h.e; omega, by simp [padL_len]; have := h.t; omega, by simp [padL_len]; have := h.lt; omega, fun j => ?_, fun j => ?_⟩
    · show (((padL G.ls (k + 1) []).set k _).getD j []).length ≤ M + 1
      rw [getD_put _ _ _ _ _ hl]
      split
      · have := h.l k; rw [List.length_append, List.length_singleton]; omega
      · rw [padL_getD]; have := h.l j; omega
    · show (((padL G.es (k + 1) []).set k []).getD j []).length < 256 ∧ H32 (((padL G.es (k + 1) []).set k []).getD j [])
      rw [getD_put _ _ _ _ _ he]
      split
      · exact ⟨by simp, H32.nil⟩
      · rw [padL_getD]; exact h.h j
  · rename_i hne
    refine ⟨by simp [padL_len]; have := h.e; omega, by simp [padL_len]; have := h.t; omega, by simp [padL_len]; have := h.lt; omega, fun j => ?_, fun j => ?_⟩
    · show ((padL G.ls (k + 1) []).getD j []).length ≤ M + 1
      rw [padL_getD]; have := h.l j; omega
    · show (((padL G.es (k + 1) []).set k (G.es.getD k [] ++ [x])).getD j []).length < 256 ∧ H32 (((padL G.es (k + 1) []).set k (G.es.getD k [] ++ [x])).getD j [])
      rw [getD_put _ _ _ _ _ he]
      split
      · have := (h.h k).1
        exact ⟨by rw [List.length_append, List.length_singleton]; omega, h32⟩
      · rw [padL_getD]; exact h.h j
theorem cr_len32 {l : List HB} (hl : H32 l) {y : HB} (hy : y.length = 32) : ∀ j, j ≤ l.length → (cr nodeH l j y).length = 32
  | 0, _ => by rw [cr_zero]; exact hy
  | j + 1, h => by rw [cr_succ nodeH l j y (by omega)]; exact shaB_len _
theorem pushes_ok {M n : Nat} {l : List HB} {y : HB} {G : GrP} (h : okP M G) (hl : H32 l) (hy : y.length = 32) : ∀ m, (∀ k, k < m → 8 * k ≤ l.length) → m ≤ 64 → okP (M + m) (pushes n l y G m)
  | 0, _, _ => h
  | m + 1, hm, hm2 => by
    rw [pushes_succ]
    exact pushP_ok (pushes_ok h hl hy m (fun k hk => hm k (by omega)) (by omega)) (by omega) (cr_len32 hl hy _ (hm m (by omega)))
theorem nds_len {n : Nat} {l : List HB} {y : HB} (hl : H32 l) (hy : y.length = 32) : ∀ k, k ≤ l.length → (nds n l y k).length = (k + 1) * 34
  | 0, _ => by rw [nds_zero, ndc_len 0 n hy]
  | k + 1, h => by
    rw [nds_succ, List.length_append, nds_len hl hy k (by omega), ndc_len _ _ (cr_len32 hl hy (k + 1) h)]
    omega
theorem nds_get {n : Nat} {l : List HB} {y : HB} (hl : H32 l) (hy : y.length = 32) : ∀ (k j : Nat), k ≤ l.length → j ≤ k → ∀ i v, (ndc j (n / 2 ^ j) (cr nodeH l j y))[i]? = some v → (nds n l y k)[j * 34 + i]? = some v
  | 0, j, _, hj, i, v, hv => by
    have : j = 0 := by omega
    subst this
    rw [nds_zero]
    simpa [cr_zero] using hv
  | k + 1, j, hk, hj, i, v, hv => by
    have hi : i < 34 := by
      have h1 := (List.getElem?_eq_some_iff.1 hv).1
      rw [ndc_len _ _ (cr_len32 hl hy j (by omega))] at h1
      exact h1
    have hlen := nds_len (n := n) hl hy k (by omega)
    rw [nds_succ]
    by_cases h : j = k + 1
    · subst h
      rw [List.getElem?_append_right (by omega), show (k + 1) * 34 + i - (nds n l y k).length = i by omega]
      exact hv
    · rw [List.getElem?_append_left (by rw [hlen]; have : j * 34 ≤ k * 34 := Nat.mul_le_mul_right _ (by omega); omega)]
      exact nds_get hl hy k j (by omega) (by omega) i v hv
theorem map_padL {α β : Type} (f : α → β) (l : List α) (n : Nat) (d : α) : (padL l n d).map f = padL (l.map f) n (f d) := by
  unfold padL
  rw [List.map_append, List.map_replicate, List.length_map]
theorem map_getD {α β : Type} (f : α → β) (l : List α) (k : Nat) (d : α) : (l.map f).getD k (f d) = f (l.getD k d) := by
  rw [List.getD_eq_getElem?_getD, List.getD_eq_getElem?_getD, List.getElem?_map]
  cases l[k]? <;> rfl
theorem push_no {D D' : GrD} {k i : Nat} {x : HB} (he : D'.es = (padL D.es (k + 1) []).set k (D.es.getD k [] ++ [x])) (hl : D'.ls = padL D.ls (k + 1) []) (ht : D'.ts = (padL D.ts (k + 1) false).set k true) (hm : (D.es.getD k []).length + 1 ≠ 256) : D'.p = pushP k x i D.p := by
  unfold pushP
  simp only [padL_getD]
  have e : D.p.es = D.es := rfl
  rw [e, if_neg hm]
  show GrP.mk D'.es (D'.ls.map (fun l => l.map LaidD.p)) D'.ts = GrP.mk _ (padL (D.ls.map (fun l => l.map LaidD.p)) (k + 1) []) _
  rw [he, hl, ht, map_padL]
  rfl
theorem push_full {D D' : GrD} {k i : Nat} {x : HB} {v : Value} (he : D'.es = (padL D.es (k + 1) []).set k []) (hl : D'.ls = (padL D.ls (k + 1) []).set k (D.ls.getD k [] ++ [⟨k, i / 256, 256, D.es.getD k [] ++ [x], v⟩])) (ht : D'.ts = (padL D.ts (k + 1) false).set k true) (hm : (D.es.getD k []).length + 1 = 256) : D'.p = pushP k x i D.p := by
  unfold pushP
  simp only [padL_getD]
  have e : D.p.es = D.es := rfl
  rw [e, if_pos hm]
  have e2 : (D.ls.map (fun l => l.map LaidD.p)).getD k [] = (D.ls.getD k []).map LaidD.p := map_getD (fun l => l.map LaidD.p) D.ls k []
  show GrP.mk D'.es (D'.ls.map (fun l => l.map LaidD.p)) D'.ts = GrP.mk _ ((padL (D.ls.map (fun l => l.map LaidD.p)) (k + 1) []).set k ((D.ls.map (fun l => l.map LaidD.p)).getD k [] ++ [(k, i / 256, 256, D.es.getD k [] ++ [x])])) _
  rw [he, hl, ht, List.map_set, map_padL, e2, List.map_append]
  rfl
/-- At node j. -/
def AgRel (B gb n o : Nat) (l : List HB) (y : HB) (G0 : GrP) (bb : Nat) (l' : List HB) (lo ng rc : Nat) (w1 : World) (jv : Value) (wr : World) : Prop :=
  ∃ (j : Nat) (V : GrV) (D : GrD), j ≤ o + 1 ∧ jv = .int .i64 j ∧ GrAt B wr gb V D ∧ D.p = pushes n l y G0 ((j + 7) / 8) ∧ D.n = n + 1 ∧ D.l = l' ∧ V.bb = bb ∧ wr.ownsRow lo 179 34 (.slice (some ⟨ng, 0, none⟩) (o + 1) rc) (o + 1) (nds n l y o) ∧ Upd (fun g => B ≤ g) w1 wr ∧ KeepsG w1 wr
/-- The length of the slice in a growth's second cell. -/
def lenAt (gb : Nat) (w : World) : Nat := match w.cell? ⟨gb, 1, none⟩ with | some (.slice _ n _) => n | _ => 0
/-- Levels are added to the edges. -/
def EgRel (B gb : Nat) (V : GrV) (D : GrD) (m : Nat) (w3 wr : World) : Prop :=
  ∃ (ev : Value) (vs : List Value) (es : List (List HB)), GrAt B wr gb { V with ev := ev, vs := vs } { D with es := es } ∧ D.es.length ≤ es.length ∧ padL es m [] = padL D.es m [] ∧ Upd (fun g => B ≤ g) w3 wr ∧ KeepsG w3 wr
/-- Levels are added to what was touched, and to the tiles. -/
def TgRel (B gb : Nat) (V : GrV) (D : GrD) (m : Nat) (w3 wr : World) : Prop :=
  ∃ (dv tv : Value) (dvs : List Value) (ls : List (List LaidD)) (ts : List Bool), GrAt B wr gb { V with dv := dv, tv := tv, dvs := dvs } { D with ls := ls, ts := ts } ∧ D.ts.length ≤ ts.length ∧ padL ts m false = padL D.ts m false ∧ padL ls m [] = padL D.ls m [] ∧ Upd (fun g => B ≤ g) w3 wr ∧ KeepsG w3 wr
theorem info_sl : (Tryz.prog.info? 65).map (fun i => (i.zero, i.size, i.bytes)) = some (some nilS, 1, 24) := by kernel_rfl
theorem sl_one : ∀ u ∈ ([nilS] : List Value), u.oneCell' = true := fun u hu => by rw [List.mem_singleton.1 hu]; rfl
theorem body_eadd : hasBody Tryz.prog 101 = true := by kernel_rfl
set_option maxRecDepth 20000 in
set_option maxHeartbeats 8000000 in
theorem gadd_any {B : Nat} {se : Nat → Addr} {w : World} {gb : Nat} {V : GrV} {D : GrD} (E : Env B se w) (h : GrAt B w gb V D) (y : HB) (hh : y.length = 32) (h32 : H32 D.l) (hn : D.n < 16777216) (ho : ones D.n ≤ D.l.length) (hl : D.l.length ≤ 64) {M : Nat} (hM : M ≤ 1048576) (hok : okP M D.p) :
    Calls Tryz.prog 47 #[.pointer (some ⟨gb, 0, none⟩), hashV y] w fun e w' => ∃ V' D', e = .returned .nilIface ∧ GrAt B w' gb V' D' ∧ D'.p = pushes D.n D.l y D.p (ones D.n / 8 + 1) ∧ D'.n = D.n + 1 ∧ D'.l = D.l.take (D.l.length - ones D.n) ++ [cr nodeH D.l (ones D.n) y] ∧ V'.bb = V.bb ∧ Upd (fun g => B ≤ g) w w' ∧ KeepsG w w' := by
  have X0 := (Upd.refl none' w).alloc (.cells (y.map u8v).toArray 30)
  have HQ := Lib.hid (blk_alloc w (.cells (y.map u8v).toArray 30))
  have HX := Lib.hid X0
  have HE := Lib.hid (E.ext X0)
  have HH := Lib.hid (h.ext X0)
  have HSL := Lib.hid (hash_size32 y hh)
  have CA := add_any (w := (w.alloc (.cells (y.map u8v).toArray 30)).drew) (HH.out.bld.ext ((Upd.refl none' _).drew)) y hh h32 hn ho hl HE.out.sgw (HE.out.ext ((Upd.refl none' _).drew)).sh (HE.out.ext ((Upd.refl none' _).drew)).tz
  have HCA := Lib.hid CA
  generalize hW : w.alloc (.cells (y.map u8v).toArray 30) = W at *
  have HY := Lib.hid hh
  have H32' := Lib.hid h32
  have HBND := Lib.hid (⟨hn, ho, hl⟩ : D.n < 16777216 ∧ ones D.n ≤ D.l.length ∧ D.l.length ≤ 64)
  have HBW := Lib.hid E.g.size
  have HOK := Lib.hid (⟨hM, hok⟩ : M ≤ 1048576 ∧ okP M D.p)
  have HWS := Lib.hid (show W.heap.size = w.heap.size + 1 by rw [← hW]; simp)
  clear E h hh h32 hn ho hl X0 CA hM hok
  go_enter Tryz.func47, Tryz.ntmps47
  go_wp2_with fail
  clear hW
  refine wp_region_any (by kernel_rfl) ?_
  change wpAny _ _ _ _ _ _ _ (World.drew _)
  refine wpAny_take (i := 0) (v := .pointer (some ⟨gb, 0, none⟩)) rfl (by kernel_rfl) (by kernel_rfl) (by kernel_rfl) (fun _ _ _ h => h) (Or.inl ⟨by rfl, fun w7 => by go_simp⟩) ?_
  refine any_normQ (by go_simp; all_goals exact rfl) ?_
  refine wpAny_take (i := 1) (v := .pointer (some ⟨gb, 0, none⟩)) rfl (by kernel_rfl) (by kernel_rfl) (by kernel_rfl) (fun _ _ _ h => h) (Or.inl ⟨by rfl, fun w7 => by go_simp⟩) ?_
  refine any_normQ (by go_simp; all_goals exact rfl) ?_
  refine wpAny_take (i := 2) (v := .pointer (some ⟨gb, 0, none⟩)) rfl (by kernel_rfl) (by kernel_rfl) (by kernel_rfl) (fun _ _ _ h => h) (Or.inl ⟨by rfl, fun w7 => by go_simp⟩) ?_
  refine any_normQ (by go_simp; all_goals exact rfl) ?_
  refine any_seq (t := 6) [3, 4] [_, _] (fun w' => w' = W.drew) (by kernel_rfl) rfl (by kernel_rfl) (by kernel_rfl) rfl ?_
  simp only [List.getElem_toArray, List.getElem_cons_succ, List.getElem_cons_zero]
  refine inv_load1 rfl rfl ⟨gb, 0, none⟩ (.pointer (some ⟨V.bb, 0, none⟩)) rfl Tryz.underlying98 rfl (fun w7 h7 => by subst h7; exact cell_of_blk HH.out.blk 0) ?_
  refine inv_norm (by go_simp; exact rfl) ?_
  refine inv_loadAgg rfl 30 _ rfl w.heap.size 0 rfl (y.map u8v) Tryz.underlying30 rfl HSL.out (fun w7 h7 j v hv => by subst h7; exact blk_cells HQ.out j v hv) ?_
  refine inv_norm (by go_simp; exact rfl) ?_
  refine inv_nil ?_
  rintro w7 rfl
  refine any1 5 (by kernel_rfl) ?_
  refine op_callf rfl (by rfl) 101 [.tmp 14, .tmp 15] _ rfl body_eadd [.pointer (some ⟨V.bb, 0, none⟩), hashV y] rfl (R := fun v w' => ∃ rv lv', v = .tuple #[rv, .nilIface] ∧ w'.ownsRow W.heap.size 179 34 rv (ones D.n + 1) (nds D.n D.l y (ones D.n)) ∧ BldAt B w' V.bb lv' (D.n + 1) (D.l.take (D.l.length - ones D.n) ++ [cr nodeH D.l (ones D.n) y]) ∧ (∀ g, lv'.ownBlock = some g → V.lv.ownBlock = some g ∨ W.heap.size ≤ g) ∧ Upd (fpE V.bb V.lv) W.drew w') (HCA.out.mono (by rintro e w' ⟨rv, lv', rfl, h1, h2, h3, h4⟩; exact ⟨_, rfl, rv, lv', rfl, h1, h2, h3, h4⟩)) ?_
  rintro v w1 ⟨rv, lv', rfl, hrow, hbl, hat, hu⟩
  obtain ⟨ng, rc, rfl, hng⟩ : ∃ ng rc, rv = .slice (some ⟨ng, 0, none⟩) (ones D.n + 1) rc ∧ W.heap.size ≤ ng := by
    rcases own_form hrow with ⟨_, h0⟩ | ⟨g, cr, h1, h2⟩
    · omega
    · exact ⟨g, cr, h1, h2⟩
  have HROW := Lib.hid hrow
  obtain ⟨V1, D1, hg1, hv1, hd1, hd2, hd3⟩ : ∃ V1 D1, GrAt B w1 gb V1 D1 ∧ V1.bb = V.bb ∧ D1.p = D.p ∧ D1.n = D.n + 1 ∧ D1.l = D.l.take (D.l.length - ones D.n) ++ [cr nodeH D.l (ones D.n) y] := ⟨_, _, (HH.out.ext ((Upd.refl none' W).drew)).add hu hbl hat, rfl, rfl, rfl, rfl⟩
  have HG1 := Lib.hid hg1
  have HU1 := Lib.hid ((Upd.ext HX.out (fun g => B ≤ g)).drew.trans (hu.mono (fun g _ hg => HH.out.bld.low g hg)))
  have HKG1 := Lib.hid ((KeepsG.ext (HX.out.drew)).trans (keepsG_tys hu (Ts := [170, 30]) (fun g _ hg => by
    rcases hg with e | e
    · have e2 : g = V.bb := e
      subst e2
      exact ⟨_, _, _, by simp, HH.out.bld.blk⟩
    · obtain ⟨c, hc⟩ := rowT HH.out.bld.row e
      exact ⟨_, _, _, by simp, hc⟩) (by decide)))
  have HAT := Lib.hid hat
  clear hrow hbl hu hat HCA
  refine inv_act (by go_simp; exact rfl) ?_
  refine wpAny_take (i := 6) (v := .tuple #[.slice (some ⟨ng, 0, none⟩) (ones D.n + 1) rc, .nilIface]) rfl (by kernel_rfl) (by kernel_rfl) (by kernel_rfl) (fun _ _ _ h => h) (Or.inl ⟨by rfl, fun w7 => by go_simp⟩) ?_
  refine any_normQ (by go_simp; all_goals exact rfl) ?_
  refine wpAny_take (i := 7) (v := .slice (some ⟨ng, 0, none⟩) (ones D.n + 1) rc) rfl (by kernel_rfl) (by kernel_rfl) (by kernel_rfl) (fun _ _ _ h => h) (Or.inl ⟨by rfl, fun w7 => by go_simp⟩) ?_
  refine any_normQ (by go_simp; all_goals exact rfl) ?_
  refine wpAny_take (i := 8) (v := .nilIface) rfl (by kernel_rfl) (by kernel_rfl) (by kernel_rfl) (fun _ _ _ h => h) (Or.inl ⟨by rfl, fun w7 => by go_simp⟩) ?_
  refine any_normQ (by go_simp; all_goals exact rfl) ?_
  refine wpAny_take (i := 9) (v := .slice (some ⟨ng, 0, none⟩) (ones D.n + 1) rc) rfl (by kernel_rfl) (by kernel_rfl) (by kernel_rfl) (fun _ _ _ h => h) (Or.inl ⟨by rfl, fun w7 => by go_simp⟩) ?_
  refine any_normQ (by go_simp; all_goals exact rfl) ?_
  refine wpAny_take (i := 10) (v := .nilIface) rfl (by kernel_rfl) (by kernel_rfl) (by kernel_rfl) (fun _ _ _ h => h) (Or.inl ⟨by rfl, fun w7 => by go_simp⟩) ?_
  refine any_normQ (by go_simp; all_goals exact rfl) ?_
  refine wpAny_done (by kernel_rfl) ?_ _
  have HON := Lib.hid (show ones D.n ≤ 64 by have := HBND.out.2.1; have := HBND.out.2.2; omega)
  generalize hoo : ones D.n = o at *
  generalize hG0 : D.p = G0 at *
  generalize hlp : D.l.take (D.l.length - o) ++ [cr nodeH D.l o y] = l' at *
  generalize hn0 : D.n = n at *
  generalize hl0 : D.l = l at *
  generalize hbb : V.bb = bb at *
  have HV1 := Lib.hid hv1
  have HD1 := Lib.hid hd1
  have HDn := Lib.hid (⟨hd2, hd3⟩ : D1.n = n + 1 ∧ D1.l = l')
  clear hg1 hv1 hd1 hd2 hd3
  go_wp2_with fail
  go_loopw [24] (fun jv wr => AgRel B gb n o l y G0 bb l' W.heap.size ng rc w1 jv wr) (fun jv _ => o + 1 - (RowKit.intOf jv).toNat)
  case atStart => exact ⟨0, V1, D1, by omega, rfl, HG1.out, HD1.out, HDn.out.1, HDn.out.2, HV1.out, HROW.out, Upd.refl _ _, KeepsG.refl _⟩
  case round =>
    obtain ⟨j, V2, D2, hj, rfl, hg, hdp, hdn, hdl, hvb, hrow, hu, hkp⟩ := hrel
    have HKP := Lib.hid hkp
    have HG2 := Lib.hid hg
    have HDP := Lib.hid hdp
    have HDL := Lib.hid (⟨hdn, hdl⟩ : D2.n = n + 1 ∧ D2.l = l')
    have HVB := Lib.hid hvb
    have HRW := Lib.hid hrow
    have HU2 := Lib.hid hu
    clear hg hdp hdn hdl hvb hrow hu hkp
    by_cases hlt : j < o + 1
    · have hji : (j : Int) < (o : Int) + 1 := by omega
      obtain ⟨x, hx⟩ : ∃ x, x = cr nodeH l j y := ⟨_, rfl⟩
      have HXE := Lib.hid hx
      have HX32 := Lib.hid (show x.length = 32 by rw [hx]; exact cr_len32 H32'.out HY.out j (by have := HBND.out.2.1; omega))
      obtain ⟨I, hI⟩ : ∃ I : Nat, I = n / 2 ^ j := ⟨_, rfl⟩
      have HIE := Lib.hid hI
      have HC := Lib.hid (show ∀ i v, (ndc j I x)[i]? = some v → wr.cell? ⟨ng, j * 34 + i, none⟩ = some v from fun i v hv => by
        rw [hI, hx] at hv
        have h := nds_get (n := n) H32'.out HY.out o j (by have := HBND.out.2.1; omega) (by omega) i v hv
        have := HRW.out.cells (g := ng) rfl _ _ h
        rwa [Addr.add_lit, Nat.zero_add] at this)
      have HNL := Lib.hid (ndc_len j I HX32.out)
      have HN1 := Lib.hid (ndc_one j I x)
      have HSZ := Lib.hid (show (Tryz.prog.info? 179).map (·.size) = some (ndc j I x).length by rw [HNL.out]; exact node_size)
      have HX3 := Lib.hid ((Upd.refl none' wr).alloc (.cells (ndc j I x).toArray 179))
      have HQ3 := Lib.hid (blk_alloc wr (.cells (ndc j I x).toArray 179))
      have HG3 := Lib.hid (HG2.out.ext HX3.out)
      have HU3 := Lib.hid (HU2.out.alloc (.cells (ndc j I x).toArray 179))
      have HK3 := Lib.hid (HKP.out.trans (KeepsG.ext HX3.out))
      have HRW3 := Lib.hid (ownsRow_upd HRW.out HX3.out (fun _ _ => id))
      have k0 : (wr.alloc (.cells (ndc j I x).toArray 179)).cell? ⟨wr.heap.size, 0, none⟩ = some (.int .u8 j) := cell_of_blk HQ3.out 0
      have HLJ := Lib.hid hlt
      have hj64 : j ≤ 64 := by have := HON.out; omega
      clear hx hI hj hlt
      by_cases hm : j % 8 = 0
      · have hmi : (j : Int) % 8 = 0 := by omega
        obtain ⟨k, hk⟩ : ∃ k, k = j / 8 := ⟨_, rfl⟩
        have hki : (j : Int) / 8 = (k : Nat) := by omega
        have HK := Lib.hid hk
        have HM := Lib.hid hm
        have hk3 : k ≤ 8 := by have := HON.out; have := HLJ.out; omega
        clear hk hm
        go_wp2_with (first
          | (refine wpList_loadAgg rfl 179 _ rfl ng (j * 34) (by go_simp) (ndc j I x) Tryz.underlying179 rfl HSZ.out HC.out ?_)
          | (refine store_new rfl 179 _ _ rfl _ _ rfl (ndc j I x) rfl HSZ.out (by rw [HNL.out]; rfl) HN1.out ?_))
        generalize wr.alloc (.cells (ndc j I x).toArray 179) = W3 at *
        generalize wr.heap.size = nb at *
        have HOKD := Lib.hid (show okP (M + k) D2.p by
          rw [HDP.out, show (j + 7) / 8 = k by have := HM.out; have := HK.out; omega]
          exact pushes_ok HOK.out.2 H32'.out HY.out k (fun k' hk' => by have := HK.out; have := HLJ.out; have := HBND.out.2.1; omega) (by omega))
        clear hmi hki hji k0
        go_loopw [] (fun wr2 => EgRel B gb V2 D2 (k + 1) W3 wr2) (fun wr2 => k + 1 - lenAt gb wr2)
        case atStart => exact ⟨V2.ev, V2.vs, D2.es, HG3.out, Nat.le_refl _, rfl, Upd.refl _ _, KeepsG.refl _⟩
        case round =>
          obtain ⟨ev, vs, es, hge, hle, hpad, hue, hke2⟩ := hrel
          have HKE2 := Lib.hid hke2
          clear hke2
          obtain ⟨eA, ec, rfl⟩ := own_sl hge.er
          have HGE := Lib.hid hge
          have HPAD := Lib.hid hpad
          have HLE := Lib.hid hle
          have HUE := Lib.hid hue
          have c1 : wr.cell? ⟨gb, 1, none⟩ = some (.slice eA es.length ec) := cell_of_blk HGE.out.blk 1
          have HLA := Lib.hid (show lenAt gb wr = es.length by unfold lenAt; rw [c1])
          clear hge hle hpad hue
          by_cases hlt2 : es.length ≤ k
          · have hle2 : (es.length : Int) ≤ k := by omega
            have hes8 : es.length ≤ 8 := by omega
            have HL2 := Lib.hid hlt2
            clear hlt2
            obtain ⟨i1, hi1, hy0, hy1, hy2⟩ := info_parts info_sl
            have HWA := Lib.hid ((Upd.refl none' wr).alloc (.cells #[nilS] 65))
            have HOA := Lib.hid (ownsRow_upd HGE.out.er HWA.out (fun _ _ => id))
            have HNW := Lib.hid (show ∀ i u, ([nilS] : List Value)[i]? = some u → (wr.alloc (.cells #[nilS] 65)).cell? ((⟨wr.heap.size, 0, none⟩ : Addr).add i) = some u from fun i u hu => by
              obtain ⟨ad, e, hc⟩ := CellsAt.new wr [nilS] 65 i u hu
              obtain rfl := Option.some.inj e
              exact hc)
            have HLM := Lib.hid (show es.length + 1 ≤ maxLen ∧ (es.length + 1) * 24 ≤ 140737488355328 by unfold maxLen; omega)
            have HBB := Lib.hid (show B ≤ (wr.alloc (.cells #[nilS] 65)).heap.size by have := lt_of_blk HGE.out.blk; have := HGE.out.low; simp; omega)
            go_wp2_with (at_builtin; (refine wpList_app rfl _ _ 33 rfl B 65 i1 _ 1 24 Tryz.underlying33 hi1 hy0 hy1 hy2 rfl (by decide) (.slice eA es.length ec) es.length _ rfl HOA.out ⟨wr.heap.size, 0, none⟩ 1 1 [nilS] rfl rfl HNW.out sl_one HLM.out.1 HLM.out.2 HBB.out ?_))
            intro v' w5 hown hgrow hat
            obtain ⟨A', c', rfl⟩ := own_sl hown
            have hne := rowNe HOA.out (Ext.blk HWA.out HGE.out.blk) (by decide)
            have hb5 : w5.heap[gb]? = some (.cells #[.pointer (some ⟨V2.bb, 0, none⟩), .slice eA es.length ec, V2.dv, V2.tv] 106 (0, 0)) := (hgrow.block gb (lt_of_blk (Ext.blk HWA.out HGE.out.blk)) (fun e => hne gb e.symm rfl)).trans (Ext.blk HWA.out HGE.out.blk)
            have d1 : w5.cell? ⟨gb, 1, none⟩ = some (.slice eA es.length ec) := cell_of_blk hb5 1
            have f1 := free_of_blk hb5 1
            have HR : Hid (GrAt B (w5.setCell ⟨gb, 1, none⟩ (.slice A' (es.length + 1) c')) gb { V2 with ev := .slice A' (es.length + 1) c', vs := vs ++ [nilS] } { D2 with es := es ++ [[]] } ∧ Upd (fun g => B ≤ g) wr (w5.setCell ⟨gb, 1, none⟩ (.slice A' (es.length + 1) c')) ∧ lenAt gb (w5.setCell ⟨gb, 1, none⟩ (.slice A' (es.length + 1) c')) = es.length + 1 ∧ KeepsG wr (w5.setCell ⟨gb, 1, none⟩ (.slice A' (es.length + 1) c'))) := Lib.hid (by
              have hu5 : Upd (fun g => g = gb ∨ (Value.slice eA es.length ec).ownBlock = some g) wr w5 := (Upd.ext HWA.out _).grown hgrow (fun g hg => .inr (.inr hg))
              have hu6 := hu5.setCell (p := ⟨gb, 1, none⟩) (.inr (.inl rfl)) (.slice A' (es.length + 1) c')
              have hb6 := blk_set hb5 1 (.slice A' (es.length + 1) c')
              have how6 := ownsRow_upd (T := one gb) hown ((Upd.refl (one gb) w5).setCell (p := ⟨gb, 1, none⟩) (.inr rfl) (.slice A' (es.length + 1) c')) (fun g hg e => rowNe hown hb5 (by decide) g hg e)
              have hT : TysIn (fun g => g = gb ∨ (Value.slice eA es.length ec).ownBlock = some g) wr [106, 65] := fun g _ hg => by
                rcases hg with e | e
                · exact ⟨_, 106, _, by simp, by rw [e]; exact HGE.out.blk⟩
                · obtain ⟨c, hc⟩ := rowT HGE.out.er e
                  exact ⟨c, 65, _, by simp, hc⟩
              refine ⟨GrAt.moreE (V := { V2 with ev := .slice eA es.length ec, vs := vs }) (D := { D2 with es := es }) HGE.out hu6 hT hb6 how6, hu6.mono (fun g hgs hg => ?_), ?_, keepsG_tys hu6 hT (by decide)⟩
              · rcases hg with e | e
                · rw [e]; exact HGE.out.low
                · exact (HGE.out.er.lt g e).1
              · unfold lenAt
                rw [cell_of_blk hb6 1]
                rfl)
            clear hown hgrow hat hne hb5
            go_wp2_with fail
            have hl2 := HL2.out
            refine ⟨?_, ?_⟩
            · exact ⟨_, _, _, HR.out.1, by have := HLE.out; rw [List.length_append, List.length_singleton]; omega, by rw [padL_step _ _ _ (by omega), HPAD.out], HUE.out.trans HR.out.2.1, HKE2.out.trans HR.out.2.2.2⟩
            · rw [HLA.out, HR.out.2.2.1]; omega
          · have hle2 : ¬ (es.length : Int) ≤ k := by omega
            have HL2 := Lib.hid hlt2
            clear hlt2
            have HES := Lib.hid (show es = padL D2.es (k + 1) [] by rw [← HPAD.out, padL_done _ _ _ (by have := HL2.out; omega)])
            obtain ⟨V3, D3, hg3, q1, q2, q3, q4, q5, q6⟩ : ∃ V3 D3, GrAt B wr gb V3 D3 ∧ V3.bb = V2.bb ∧ D3.es = padL D2.es (k + 1) [] ∧ D3.ls = D2.ls ∧ D3.ts = D2.ts ∧ D3.n = D2.n ∧ D3.l = D2.l := ⟨_, _, HGE.out, rfl, HES.out, rfl, rfl, rfl, rfl⟩
            have HG4 := Lib.hid hg3
            have HQS := Lib.hid (⟨q1, q2, q3, q4, q5, q6⟩ : V3.bb = V2.bb ∧ D3.es = padL D2.es (k + 1) [] ∧ D3.ls = D2.ls ∧ D3.ts = D2.ts ∧ D3.n = D2.n ∧ D3.l = D2.l)
            have HU4 := Lib.hid (HU3.out.trans HUE.out)
            clear hg3 q1 q2 q3 q4 q5 q6
            go_wp2_with fail
            clear hle2 c1
            obtain ⟨wq, hwq⟩ : ∃ wq : World, wq = wr := ⟨_, rfl⟩
            subst hwq
            go_loopw [] (fun wr2 => TgRel B gb V3 D3 (k + 1) wq wr2) (fun wr2 => k + 1 - lenT gb wr2)
            case atStart => exact ⟨V3.dv, V3.tv, V3.dvs, D3.ls, D3.ts, HG4.out, Nat.le_refl _, rfl, rfl, Upd.refl _ _, KeepsG.refl _⟩
            case round =>
              obtain ⟨dv, tv, dvs, ls, ts, hge, hle, hpad, hpadl, hue, hkt⟩ := hrel
              have HKT := Lib.hid hkt
              clear hkt
              obtain ⟨tA, tc, rfl⟩ := own_sl hge.tr
              obtain ⟨dA, dc, rfl⟩ := own_sl hge.dr
              have HGT := Lib.hid hge
              have HPT := Lib.hid (⟨hpad, hpadl⟩ : padL ts (k + 1) false = padL D3.ts (k + 1) false ∧ padL ls (k + 1) [] = padL D3.ls (k + 1) [])
              have HLT := Lib.hid hle
              have HUT := Lib.hid hue
              have e3 : wr.cell? ⟨gb, 3, none⟩ = some (.slice tA ts.length tc) := cell_of_blk HGT.out.blk 3
              have e2 : wr.cell? ⟨gb, 2, none⟩ = some (.slice dA ls.length dc) := cell_of_blk HGT.out.blk 2
              have HLA2 := Lib.hid (show lenT gb wr = ts.length by unfold lenT; rw [e3])
              have HE2 := Lib.hid e2
              have HE3 := Lib.hid e3
              clear hge hle hpad hpadl hue e2
              by_cases hlt2 : ts.length ≤ k
              · have hle2 : (ts.length : Int) ≤ k := by omega
                have HL2' := Lib.hid hlt2
                clear hlt2
                go_wp2_with fail
                obtain ⟨ib, hib, hbz, hbs, hbb⟩ := info_parts info_bool
                obtain ⟨il, hil, hlz, hls, hlb⟩ := info_parts info_lsl
                have HLL := Lib.hid (show ls.length = ts.length from HGT.out.len)
                have HLM7 := Lib.hid (show ts.length + 1 ≤ maxLen ∧ (ts.length + 1) * 1 ≤ 140737488355328 by unfold maxLen; have := HL2'.out; omega)
                have HLM13 := Lib.hid (show ls.length + 1 ≤ maxLen ∧ (ls.length + 1) * 24 ≤ 140737488355328 by unfold maxLen; have := HL2'.out; have := HLL.out; omega)
                clear hle2 e3
                have HF : Hid (D3.ts.length ≤ (ts ++ [false]).length ∧ padL (ts ++ [false]) (k + 1) false = padL D3.ts (k + 1) false ∧ padL (ls ++ [[]]) (k + 1) [] = padL D3.ls (k + 1) [] ∧ k + 1 - (ts.length + 1) < k + 1 - ts.length) := Lib.hid (by
                  have h1 := HL2'.out; have h2 := HLT.out; have h3 := HLL.out
                  exact ⟨by rw [List.length_append, List.length_singleton]; exact Nat.le_succ_of_le h2, by rw [padL_step _ _ _ (by omega), HPT.out.1], by rw [padL_step _ _ _ (by omega), HPT.out.2], by omega⟩)
                refine region_bar (fun w' => w'.cell? ⟨gb, 3, none⟩ = some (.slice tA ts.length tc) ∧ w'.cell? ⟨gb, 2, none⟩ = some (.slice dA ls.length dc)) [16, 19] (by kernel_rfl) ?_
                change wpAnyB _ _ _ _ _ _ _ _ _ (World.drew _)
                have HB0 : Hid (wr.drew.heap[gb]? = some (.cells #[.pointer (some ⟨V3.bb, 0, none⟩), V3.ev, .slice dA ls.length dc, .slice tA ts.length tc] 106 (0, 0))) := Lib.hid HGT.out.blk
                have HS0 : Hid ((fun w' => w'.cell? ⟨gb, 3, none⟩ = some (.slice tA ts.length tc) ∧ w'.cell? ⟨gb, 2, none⟩ = some (.slice dA ls.length dc)) wr.drew) := Lib.hid ⟨HE3.out, HE2.out⟩
                have HT0 := Lib.hid (ownsRow_upd HGT.out.tr ((Upd.refl none' wr).drew) (fun _ _ => id))
                have HD0 := Lib.hid (ownsRow_upd HGT.out.dr ((Upd.refl none' wr).drew) (fun _ _ => id))
                have HU0 := Lib.hid ((Upd.refl (fun g => g = gb ∨ (Value.slice tA ts.length tc).ownBlock = some g ∨ (Value.slice dA ls.length dc).ownBlock = some g) wr).drew)
                refine bar_pure 0 (.pointer (some ⟨gb, 0, none⟩)) rfl (by kernel_rfl) (by kernel_rfl) (by kernel_rfl) (by kernel_rfl) (fun _ _ _ h => h) (by rfl) (fun w7 => by go_simp) (fun _ => HS0.out) ?_
                refine bar_norm (by go_simp; all_goals exact rfl) ?_
                refine bar_pure 1 (.pointer (some ⟨gb, 0, none⟩)) rfl (by kernel_rfl) (by kernel_rfl) (by kernel_rfl) (by kernel_rfl) (fun _ _ _ h => h) (by rfl) (fun w7 => by go_simp) (fun _ => HS0.out) ?_
                refine bar_norm (by go_simp; all_goals exact rfl) ?_
                refine bar_pure 2 (.pointer (some ⟨gb, 0, none⟩)) rfl (by kernel_rfl) (by kernel_rfl) (by kernel_rfl) (by kernel_rfl) (fun _ _ _ h => h) (by rfl) (fun w7 => by go_simp) (fun _ => HS0.out) ?_
                refine bar_norm (by go_simp; all_goals exact rfl) ?_
                refine bar_pure 3 (.pointer (some ⟨gb, 0, none⟩)) rfl (by kernel_rfl) (by kernel_rfl) (by kernel_rfl) (by kernel_rfl) (fun _ _ _ h => h) (by rfl) (fun w7 => by go_simp) (fun _ => HS0.out) ?_
                refine bar_norm (by go_simp; all_goals exact rfl) ?_
                refine bar_pure 4 (.pointer (some ⟨gb, 3, none⟩)) rfl (by kernel_rfl) (by kernel_rfl) (by kernel_rfl) (by kernel_rfl) (fun _ _ _ h => h) (by rfl) (fun w7 => by go_simp) (fun _ => HS0.out) ?_
                refine bar_norm (by go_simp; all_goals exact rfl) ?_
                refine bar_pure 8 (.pointer (some ⟨gb, 0, none⟩)) rfl (by kernel_rfl) (by kernel_rfl) (by kernel_rfl) (by kernel_rfl) (fun _ _ _ h => h) (by rfl) (fun w7 => by go_simp) (fun _ => HS0.out) ?_
                refine bar_norm (by go_simp; all_goals exact rfl) ?_
                refine bar_pure 9 (.pointer (some ⟨gb, 0, none⟩)) rfl (by kernel_rfl) (by kernel_rfl) (by kernel_rfl) (by kernel_rfl) (fun _ _ _ h => h) (by rfl) (fun w7 => by go_simp) (fun _ => HS0.out) ?_
                refine bar_norm (by go_simp; all_goals exact rfl) ?_
                refine bar_pure 10 (.pointer (some ⟨gb, 2, none⟩)) rfl (by kernel_rfl) (by kernel_rfl) (by kernel_rfl) (by kernel_rfl) (fun _ _ _ h => h) (by rfl) (fun w7 => by go_simp) (fun _ => HS0.out) ?_
                refine bar_norm (by go_simp; all_goals exact rfl) ?_
                refine bar_read 5 (.slice tA ts.length tc) rfl (by kernel_rfl) (by kernel_rfl) (by kernel_rfl) (by kernel_rfl) (by kernel_rfl) (fun _ _ _ h => h) (by rfl) (fun w7 h7 => run_ld1 w7 rfl ⟨gb, 3, none⟩ _ rfl Tryz.underlying104 rfl h7.1) HS0.out ?_
                refine bar_norm (by go_simp; all_goals exact rfl) ?_
                refine bar_read 11 (.slice dA ls.length dc) rfl (by kernel_rfl) (by kernel_rfl) (by kernel_rfl) (by kernel_rfl) (by kernel_rfl) (fun _ _ _ h => h) (by rfl) (fun w7 h7 => run_ld1 w7 rfl ⟨gb, 2, none⟩ _ rfl Tryz.underlying103 rfl h7.2) HS0.out ?_
                refine bar_norm (by go_simp; all_goals exact rfl) ?_
                refine bar2 6 12 (by kernel_rfl) ?_ ?_
                · refine op_build1Q rfl (by rfl) 104 4 _ rfl (.bool false) rfl Tryz.underlying104 ib _ hib hbz hbs rfl ?_
                  have HX1 := Lib.hid ((Upd.refl none' (wr.drew)).alloc (.cells #[.bool false] 4))
                  have HN6 := Lib.hid (blk_at (w := wr.drew) (v := .bool false) (e := 4) (g := (wr.drew).heap.size) (by simp))
                  have HB1 := Lib.hid (Ext.blk HX1.out HB0.out)
                  have HT1 := Lib.hid (ownsRow_upd HT0.out HX1.out (fun _ _ => id))
                  have HD1 := Lib.hid (ownsRow_upd HD0.out HX1.out (fun _ _ => id))
                  have HU1 := Lib.hid (HU0.out.alloc (.cells #[.bool false] 4))
                  have HS1 : Hid ((fun w' => w'.cell? ⟨gb, 3, none⟩ = some (.slice tA ts.length tc) ∧ w'.cell? ⟨gb, 2, none⟩ = some (.slice dA ls.length dc)) ((wr.drew).alloc (.cells #[.bool false] 4))) := Lib.hid ⟨(cell_of_blk HB1.out 3), (cell_of_blk HB1.out 2)⟩
                  refine ⟨fun _ => HS1.out, ?_⟩
                  refine bar_norm (by go_simp; all_goals exact rfl) ?_
                  refine bar2 7 12 (by kernel_rfl) ?_ ?_
                  · have HSZ7 := Lib.hid (show B ≤ ((wr.drew).alloc (.cells #[.bool false] 4)).heap.size by have h1 := lt_of_blk HB1.out; have h2 := HGT.out.low; omega)
                    refine op_app1 rfl (by rfl) _ _ 104 rfl B 4 ib _ 1 1 Tryz.underlying104 hib hbz hbs hbb rfl (by decide) (.slice tA ts.length tc) ts.length _ rfl HT1.out ⟨(wr.drew).heap.size, 0, none⟩ 1 1 [.bool false] rfl rfl (newc HN6.out) bool_one HLM7.out.1 HLM7.out.2 HSZ7.out ?_
                    intro v7 w7 hown7 hgrow7 _
                    obtain ⟨A7, c7, rfl⟩ := own_sl hown7
                    have HO7 := Lib.hid hown7
                    have HB2 : Hid (w7.heap[gb]? = some (.cells #[.pointer (some ⟨V3.bb, 0, none⟩), V3.ev, .slice dA ls.length dc, .slice tA ts.length tc] 106 (0, 0))) := Lib.hid ((hgrow7.block gb (lt_of_blk HB1.out) (fun e => rowNe HT1.out HB1.out (by decide) gb e.symm rfl)).trans HB1.out)
                    have HD2 := Lib.hid (own_ty HD1.out (S := fun g => (Value.slice tA ts.length tc).ownBlock = some g) ((Upd.refl _ _).grown hgrow7 (fun g hg => .inr hg)) (tyIn_row HT1.out) (by decide))
                    have HT2 := HO7
                    have HU2 := Lib.hid (HU1.out.grown hgrow7 (fun g hg => .inr (.inr (.inl hg))))
                    clear hown7 hgrow7
                    have HS2 : Hid ((fun w' => w'.cell? ⟨gb, 3, none⟩ = some (.slice tA ts.length tc) ∧ w'.cell? ⟨gb, 2, none⟩ = some (.slice dA ls.length dc)) w7) := Lib.hid ⟨(cell_of_blk HB2.out 3), (cell_of_blk HB2.out 2)⟩
                    refine ⟨fun _ => HS2.out, ?_⟩
                    refine bar_norm (by go_simp; all_goals exact rfl) ?_
                    refine bar1 12 (by kernel_rfl) ?_
                    refine op_build1Q rfl (by rfl) 103 112 _ rfl (nilS) rfl Tryz.underlying103 il _ hil hlz hls rfl ?_
                    have HX3 := Lib.hid ((Upd.refl none' (w7)).alloc (.cells #[nilS] 112))
                    have HN12 := Lib.hid (blk_at (w := w7) (v := nilS) (e := 112) (g := (w7).heap.size) (by simp))
                    have HB3 := Lib.hid (Ext.blk HX3.out HB2.out)
                    have HT3 := Lib.hid (ownsRow_upd HT2.out HX3.out (fun _ _ => id))
                    have HD3 := Lib.hid (ownsRow_upd HD2.out HX3.out (fun _ _ => id))
                    have HU3 := Lib.hid (HU2.out.alloc (.cells #[nilS] 112))
                    have HS3 : Hid ((fun w' => w'.cell? ⟨gb, 3, none⟩ = some (.slice tA ts.length tc) ∧ w'.cell? ⟨gb, 2, none⟩ = some (.slice dA ls.length dc)) ((w7).alloc (.cells #[nilS] 112))) := Lib.hid ⟨(cell_of_blk HB3.out 3), (cell_of_blk HB3.out 2)⟩
                    refine ⟨fun _ => HS3.out, ?_⟩
                    refine bar_norm (by go_simp; all_goals exact rfl) ?_
                    refine bar1 13 (by kernel_rfl) ?_
                    have HSZ13 := Lib.hid (show B ≤ ((w7).alloc (.cells #[nilS] 112)).heap.size by have h1 := lt_of_blk HB3.out; have h2 := HGT.out.low; omega)
                    refine op_app1 rfl (by rfl) _ _ 103 rfl B 112 il _ 1 24 Tryz.underlying103 hil hlz hls hlb rfl (by decide) (.slice dA ls.length dc) ls.length _ rfl HD3.out ⟨(w7).heap.size, 0, none⟩ 1 1 [nilS] rfl rfl (newc HN12.out) sl_one HLM13.out.1 HLM13.out.2 HSZ13.out ?_
                    intro v13 w13 hown13 hgrow13 _
                    obtain ⟨A13, c13, rfl⟩ := own_sl hown13
                    have HO13 := Lib.hid hown13
                    have HB4 : Hid (w13.heap[gb]? = some (.cells #[.pointer (some ⟨V3.bb, 0, none⟩), V3.ev, .slice dA ls.length dc, .slice tA ts.length tc] 106 (0, 0))) := Lib.hid ((hgrow13.block gb (lt_of_blk HB3.out) (fun e => rowNe HD3.out HB3.out (by decide) gb e.symm rfl)).trans HB3.out)
                    have HT4 := Lib.hid (own_ty HT3.out (S := fun g => (Value.slice dA ls.length dc).ownBlock = some g) ((Upd.refl _ _).grown hgrow13 (fun g hg => .inr hg)) (tyIn_row HD3.out) (by decide))
                    have HD4 := HO13
                    have HU4 := Lib.hid (HU3.out.grown hgrow13 (fun g hg => .inr (.inr (.inr hg))))
                    clear hown13 hgrow13
                    have HS4 : Hid ((fun w' => w'.cell? ⟨gb, 3, none⟩ = some (.slice tA ts.length tc) ∧ w'.cell? ⟨gb, 2, none⟩ = some (.slice dA ls.length dc)) w13) := Lib.hid ⟨(cell_of_blk HB4.out 3), (cell_of_blk HB4.out 2)⟩
                    refine ⟨fun _ => HS4.out, ?_⟩
                    refine bar_norm (by go_simp; all_goals exact rfl) ?_
                    refine bar_pure 14 (.pointer (some ⟨gb, 0, none⟩)) rfl (by kernel_rfl) (by kernel_rfl) (by kernel_rfl) (by kernel_rfl) (fun _ _ _ h => h) (by rfl) (fun w7 => by go_simp) (fun _ => HS4.out) ?_
                    refine bar_norm (by go_simp; all_goals exact rfl) ?_
                    refine bar_pure 15 (.pointer (some ⟨gb, 3, none⟩)) rfl (by kernel_rfl) (by kernel_rfl) (by kernel_rfl) (by kernel_rfl) (fun _ _ _ h => h) (by rfl) (fun w7 => by go_simp) (fun _ => HS4.out) ?_
                    refine bar_norm (by go_simp; all_goals exact rfl) ?_
                    refine bar1 16 (by kernel_rfl) ?_
                    refine op_store1 rfl (by rfl) 104 _ _ rfl ⟨gb, 3, none⟩ rfl (.slice A7 (ts.length + 1) c7) rfl rfl rfl size_bools _ (cell_of_blk HB4.out 3) (free_of_blk HB4.out 3) ?_
                    have HBs := Lib.hid (blk_set HB4.out 3 (.slice A7 (ts.length + 1) c7))
                    refine ⟨fun e => by simp [openB] at e, ?_⟩
                    refine bar_norm (by go_simp; all_goals exact rfl) ?_
                    refine bar_pure 17 (.pointer (some ⟨gb, 0, none⟩)) rfl (by kernel_rfl) (by kernel_rfl) (by kernel_rfl) (by kernel_rfl) (fun _ _ _ h => h) (by rfl) (fun w7 => by go_simp) (fun e => by simp [openB] at e) ?_
                    refine bar_norm (by go_simp; all_goals exact rfl) ?_
                    refine bar_pure 18 (.pointer (some ⟨gb, 2, none⟩)) rfl (by kernel_rfl) (by kernel_rfl) (by kernel_rfl) (by kernel_rfl) (fun _ _ _ h => h) (by rfl) (fun w7 => by go_simp) (fun e => by simp [openB] at e) ?_
                    refine bar_norm (by go_simp; all_goals exact rfl) ?_
                    refine bar1 19 (by kernel_rfl) ?_
                    refine op_store1 rfl (by rfl) 103 _ _ rfl ⟨gb, 2, none⟩ rfl (.slice A13 (ls.length + 1) c13) rfl rfl rfl size_laids _ (cell_of_blk HBs.out 2) (free_of_blk HBs.out 2) ?_
                    refine ⟨fun e => by simp [openB] at e, ?_⟩
                    refine bar_norm (by go_simp; all_goals exact rfl) ?_
                    refine bar_done (by kernel_rfl) ?_ _
                    have HR := Lib.hid (moreT_fin HGT.out HU4.out HB4.out HT4.out HD4.out)
                    go_wp2_with fail
                    exact ⟨⟨_, _, _, _, _, HR.out.1, HF.out.1, HF.out.2.1, HF.out.2.2.1, HUT.out.trans HR.out.2.1, HKT.out.trans HR.out.2.2.2⟩, by rw [HLA2.out, HR.out.2.2.1]; exact HF.out.2.2.2⟩
                  · refine op_build1Q rfl (by rfl) 103 112 _ rfl (nilS) rfl Tryz.underlying103 il _ hil hlz hls rfl ?_
                    have HX2 := Lib.hid ((Upd.refl none' ((wr.drew).alloc (.cells #[.bool false] 4))).alloc (.cells #[nilS] 112))
                    have HN12 := Lib.hid (blk_at (w := (wr.drew).alloc (.cells #[.bool false] 4)) (v := nilS) (e := 112) (g := (wr.heap.size + 1)) (by simp))
                    have HB2 := Lib.hid (Ext.blk HX2.out HB1.out)
                    have HT2 := Lib.hid (ownsRow_upd HT1.out HX2.out (fun _ _ => id))
                    have HD2 := Lib.hid (ownsRow_upd HD1.out HX2.out (fun _ _ => id))
                    have HU2 := Lib.hid (HU1.out.alloc (.cells #[nilS] 112))
                    have HN6 := Lib.hid (Ext.blk HX2.out HN6.out)
                    have HS2 : Hid ((fun w' => w'.cell? ⟨gb, 3, none⟩ = some (.slice tA ts.length tc) ∧ w'.cell? ⟨gb, 2, none⟩ = some (.slice dA ls.length dc)) (((wr.drew).alloc (.cells #[.bool false] 4)).alloc (.cells #[nilS] 112))) := Lib.hid ⟨(cell_of_blk HB2.out 3), (cell_of_blk HB2.out 2)⟩
                    refine ⟨fun _ => HS2.out, ?_⟩
                    refine bar_norm (by go_simp; all_goals exact rfl) ?_
                    refine bar1 7 (by kernel_rfl) ?_
                    have HSZ7 := Lib.hid (show B ≤ (((wr.drew).alloc (.cells #[.bool false] 4)).alloc (.cells #[nilS] 112)).heap.size by have h1 := lt_of_blk HB2.out; have h2 := HGT.out.low; omega)
                    refine op_app1 rfl (by rfl) _ _ 104 rfl B 4 ib _ 1 1 Tryz.underlying104 hib hbz hbs hbb rfl (by decide) (.slice tA ts.length tc) ts.length _ rfl HT2.out ⟨(wr.drew).heap.size, 0, none⟩ 1 1 [.bool false] rfl rfl (newc HN6.out) bool_one HLM7.out.1 HLM7.out.2 HSZ7.out ?_
                    intro v7 w7 hown7 hgrow7 _
                    obtain ⟨A7, c7, rfl⟩ := own_sl hown7
                    have HO7 := Lib.hid hown7
                    have HB3 : Hid (w7.heap[gb]? = some (.cells #[.pointer (some ⟨V3.bb, 0, none⟩), V3.ev, .slice dA ls.length dc, .slice tA ts.length tc] 106 (0, 0))) := Lib.hid ((hgrow7.block gb (lt_of_blk HB2.out) (fun e => rowNe HT2.out HB2.out (by decide) gb e.symm rfl)).trans HB2.out)
                    have HD3 := Lib.hid (own_ty HD2.out (S := fun g => (Value.slice tA ts.length tc).ownBlock = some g) ((Upd.refl _ _).grown hgrow7 (fun g hg => .inr hg)) (tyIn_row HT2.out) (by decide))
                    have HT3 := HO7
                    have HU3 := Lib.hid (HU2.out.grown hgrow7 (fun g hg => .inr (.inr (.inl hg))))
                    have HN12 := Lib.hid (blk_ty HN12.out (S := fun g => (Value.slice tA ts.length tc).ownBlock = some g) ((Upd.refl _ _).grown hgrow7 (fun g hg => .inr hg)) (tyIn_row HT2.out) (by decide))
                    clear hown7 hgrow7
                    have HS3 : Hid ((fun w' => w'.cell? ⟨gb, 3, none⟩ = some (.slice tA ts.length tc) ∧ w'.cell? ⟨gb, 2, none⟩ = some (.slice dA ls.length dc)) w7) := Lib.hid ⟨(cell_of_blk HB3.out 3), (cell_of_blk HB3.out 2)⟩
                    refine ⟨fun _ => HS3.out, ?_⟩
                    refine bar_norm (by go_simp; all_goals exact rfl) ?_
                    refine bar1 13 (by kernel_rfl) ?_
                    have HSZ13 := Lib.hid (show B ≤ (w7).heap.size by have h1 := lt_of_blk HB3.out; have h2 := HGT.out.low; omega)
                    refine op_app1 rfl (by rfl) _ _ 103 rfl B 112 il _ 1 24 Tryz.underlying103 hil hlz hls hlb rfl (by decide) (.slice dA ls.length dc) ls.length _ rfl HD3.out ⟨(wr.heap.size + 1), 0, none⟩ 1 1 [nilS] rfl rfl (newc HN12.out) sl_one HLM13.out.1 HLM13.out.2 HSZ13.out ?_
                    intro v13 w13 hown13 hgrow13 _
                    obtain ⟨A13, c13, rfl⟩ := own_sl hown13
                    have HO13 := Lib.hid hown13
                    have HB4 : Hid (w13.heap[gb]? = some (.cells #[.pointer (some ⟨V3.bb, 0, none⟩), V3.ev, .slice dA ls.length dc, .slice tA ts.length tc] 106 (0, 0))) := Lib.hid ((hgrow13.block gb (lt_of_blk HB3.out) (fun e => rowNe HD3.out HB3.out (by decide) gb e.symm rfl)).trans HB3.out)
                    have HT4 := Lib.hid (own_ty HT3.out (S := fun g => (Value.slice dA ls.length dc).ownBlock = some g) ((Upd.refl _ _).grown hgrow13 (fun g hg => .inr hg)) (tyIn_row HD3.out) (by decide))
                    have HD4 := HO13
                    have HU4 := Lib.hid (HU3.out.grown hgrow13 (fun g hg => .inr (.inr (.inr hg))))
                    clear hown13 hgrow13
                    have HS4 : Hid ((fun w' => w'.cell? ⟨gb, 3, none⟩ = some (.slice tA ts.length tc) ∧ w'.cell? ⟨gb, 2, none⟩ = some (.slice dA ls.length dc)) w13) := Lib.hid ⟨(cell_of_blk HB4.out 3), (cell_of_blk HB4.out 2)⟩
                    refine ⟨fun _ => HS4.out, ?_⟩
                    refine bar_norm (by go_simp; all_goals exact rfl) ?_
                    refine bar_pure 14 (.pointer (some ⟨gb, 0, none⟩)) rfl (by kernel_rfl) (by kernel_rfl) (by kernel_rfl) (by kernel_rfl) (fun _ _ _ h => h) (by rfl) (fun w7 => by go_simp) (fun _ => HS4.out) ?_
                    refine bar_norm (by go_simp; all_goals exact rfl) ?_
                    refine bar_pure 15 (.pointer (some ⟨gb, 3, none⟩)) rfl (by kernel_rfl) (by kernel_rfl) (by kernel_rfl) (by kernel_rfl) (fun _ _ _ h => h) (by rfl) (fun w7 => by go_simp) (fun _ => HS4.out) ?_
                    refine bar_norm (by go_simp; all_goals exact rfl) ?_
                    refine bar1 16 (by kernel_rfl) ?_
                    refine op_store1 rfl (by rfl) 104 _ _ rfl ⟨gb, 3, none⟩ rfl (.slice A7 (ts.length + 1) c7) rfl rfl rfl size_bools _ (cell_of_blk HB4.out 3) (free_of_blk HB4.out 3) ?_
                    have HBs := Lib.hid (blk_set HB4.out 3 (.slice A7 (ts.length + 1) c7))
                    refine ⟨fun e => by simp [openB] at e, ?_⟩
                    refine bar_norm (by go_simp; all_goals exact rfl) ?_
                    refine bar_pure 17 (.pointer (some ⟨gb, 0, none⟩)) rfl (by kernel_rfl) (by kernel_rfl) (by kernel_rfl) (by kernel_rfl) (fun _ _ _ h => h) (by rfl) (fun w7 => by go_simp) (fun e => by simp [openB] at e) ?_
                    refine bar_norm (by go_simp; all_goals exact rfl) ?_
                    refine bar_pure 18 (.pointer (some ⟨gb, 2, none⟩)) rfl (by kernel_rfl) (by kernel_rfl) (by kernel_rfl) (by kernel_rfl) (fun _ _ _ h => h) (by rfl) (fun w7 => by go_simp) (fun e => by simp [openB] at e) ?_
                    refine bar_norm (by go_simp; all_goals exact rfl) ?_
                    refine bar1 19 (by kernel_rfl) ?_
                    refine op_store1 rfl (by rfl) 103 _ _ rfl ⟨gb, 2, none⟩ rfl (.slice A13 (ls.length + 1) c13) rfl rfl rfl size_laids _ (cell_of_blk HBs.out 2) (free_of_blk HBs.out 2) ?_
                    refine ⟨fun e => by simp [openB] at e, ?_⟩
                    refine bar_norm (by go_simp; all_goals exact rfl) ?_
                    refine bar_done (by kernel_rfl) ?_ _
                    have HR := Lib.hid (moreT_fin HGT.out HU4.out HB4.out HT4.out HD4.out)
                    go_wp2_with fail
                    exact ⟨⟨_, _, _, _, _, HR.out.1, HF.out.1, HF.out.2.1, HF.out.2.2.1, HUT.out.trans HR.out.2.1, HKT.out.trans HR.out.2.2.2⟩, by rw [HLA2.out, HR.out.2.2.1]; exact HF.out.2.2.2⟩
                · refine op_build1Q rfl (by rfl) 103 112 _ rfl (nilS) rfl Tryz.underlying103 il _ hil hlz hls rfl ?_
                  have HX1 := Lib.hid ((Upd.refl none' (wr.drew)).alloc (.cells #[nilS] 112))
                  have HN12 := Lib.hid (blk_at (w := wr.drew) (v := nilS) (e := 112) (g := (wr.drew).heap.size) (by simp))
                  have HB1 := Lib.hid (Ext.blk HX1.out HB0.out)
                  have HT1 := Lib.hid (ownsRow_upd HT0.out HX1.out (fun _ _ => id))
                  have HD1 := Lib.hid (ownsRow_upd HD0.out HX1.out (fun _ _ => id))
                  have HU1 := Lib.hid (HU0.out.alloc (.cells #[nilS] 112))
                  have HS1 : Hid ((fun w' => w'.cell? ⟨gb, 3, none⟩ = some (.slice tA ts.length tc) ∧ w'.cell? ⟨gb, 2, none⟩ = some (.slice dA ls.length dc)) ((wr.drew).alloc (.cells #[nilS] 112))) := Lib.hid ⟨(cell_of_blk HB1.out 3), (cell_of_blk HB1.out 2)⟩
                  refine ⟨fun _ => HS1.out, ?_⟩
                  refine bar_norm (by go_simp; all_goals exact rfl) ?_
                  refine bar1 6 (by kernel_rfl) ?_
                  refine op_build1Q rfl (by rfl) 104 4 _ rfl (.bool false) rfl Tryz.underlying104 ib _ hib hbz hbs rfl ?_
                  have HX2 := Lib.hid ((Upd.refl none' ((wr.drew).alloc (.cells #[nilS] 112))).alloc (.cells #[.bool false] 4))
                  have HN6 := Lib.hid (blk_at (w := (wr.drew).alloc (.cells #[nilS] 112)) (v := .bool false) (e := 4) (g := (wr.heap.size + 1)) (by simp))
                  have HB2 := Lib.hid (Ext.blk HX2.out HB1.out)
                  have HT2 := Lib.hid (ownsRow_upd HT1.out HX2.out (fun _ _ => id))
                  have HD2 := Lib.hid (ownsRow_upd HD1.out HX2.out (fun _ _ => id))
                  have HU2 := Lib.hid (HU1.out.alloc (.cells #[.bool false] 4))
                  have HN12 := Lib.hid (Ext.blk HX2.out HN12.out)
                  have HS2 : Hid ((fun w' => w'.cell? ⟨gb, 3, none⟩ = some (.slice tA ts.length tc) ∧ w'.cell? ⟨gb, 2, none⟩ = some (.slice dA ls.length dc)) (((wr.drew).alloc (.cells #[nilS] 112)).alloc (.cells #[.bool false] 4))) := Lib.hid ⟨(cell_of_blk HB2.out 3), (cell_of_blk HB2.out 2)⟩
                  refine ⟨fun _ => HS2.out, ?_⟩
                  refine bar_norm (by go_simp; all_goals exact rfl) ?_
                  refine bar1 7 (by kernel_rfl) ?_
                  have HSZ7 := Lib.hid (show B ≤ (((wr.drew).alloc (.cells #[nilS] 112)).alloc (.cells #[.bool false] 4)).heap.size by have h1 := lt_of_blk HB2.out; have h2 := HGT.out.low; omega)
                  refine op_app1 rfl (by rfl) _ _ 104 rfl B 4 ib _ 1 1 Tryz.underlying104 hib hbz hbs hbb rfl (by decide) (.slice tA ts.length tc) ts.length _ rfl HT2.out ⟨(wr.heap.size + 1), 0, none⟩ 1 1 [.bool false] rfl rfl (newc HN6.out) bool_one HLM7.out.1 HLM7.out.2 HSZ7.out ?_
                  intro v7 w7 hown7 hgrow7 _
                  obtain ⟨A7, c7, rfl⟩ := own_sl hown7
                  have HO7 := Lib.hid hown7
                  have HB3 : Hid (w7.heap[gb]? = some (.cells #[.pointer (some ⟨V3.bb, 0, none⟩), V3.ev, .slice dA ls.length dc, .slice tA ts.length tc] 106 (0, 0))) := Lib.hid ((hgrow7.block gb (lt_of_blk HB2.out) (fun e => rowNe HT2.out HB2.out (by decide) gb e.symm rfl)).trans HB2.out)
                  have HD3 := Lib.hid (own_ty HD2.out (S := fun g => (Value.slice tA ts.length tc).ownBlock = some g) ((Upd.refl _ _).grown hgrow7 (fun g hg => .inr hg)) (tyIn_row HT2.out) (by decide))
                  have HT3 := HO7
                  have HU3 := Lib.hid (HU2.out.grown hgrow7 (fun g hg => .inr (.inr (.inl hg))))
                  have HN12 := Lib.hid (blk_ty HN12.out (S := fun g => (Value.slice tA ts.length tc).ownBlock = some g) ((Upd.refl _ _).grown hgrow7 (fun g hg => .inr hg)) (tyIn_row HT2.out) (by decide))
                  clear hown7 hgrow7
                  have HS3 : Hid ((fun w' => w'.cell? ⟨gb, 3, none⟩ = some (.slice tA ts.length tc) ∧ w'.cell? ⟨gb, 2, none⟩ = some (.slice dA ls.length dc)) w7) := Lib.hid ⟨(cell_of_blk HB3.out 3), (cell_of_blk HB3.out 2)⟩
                  refine ⟨fun _ => HS3.out, ?_⟩
                  refine bar_norm (by go_simp; all_goals exact rfl) ?_
                  refine bar1 13 (by kernel_rfl) ?_
                  have HSZ13 := Lib.hid (show B ≤ (w7).heap.size by have h1 := lt_of_blk HB3.out; have h2 := HGT.out.low; omega)
                  refine op_app1 rfl (by rfl) _ _ 103 rfl B 112 il _ 1 24 Tryz.underlying103 hil hlz hls hlb rfl (by decide) (.slice dA ls.length dc) ls.length _ rfl HD3.out ⟨(wr.drew).heap.size, 0, none⟩ 1 1 [nilS] rfl rfl (newc HN12.out) sl_one HLM13.out.1 HLM13.out.2 HSZ13.out ?_
                  intro v13 w13 hown13 hgrow13 _
                  obtain ⟨A13, c13, rfl⟩ := own_sl hown13
                  have HO13 := Lib.hid hown13
                  have HB4 : Hid (w13.heap[gb]? = some (.cells #[.pointer (some ⟨V3.bb, 0, none⟩), V3.ev, .slice dA ls.length dc, .slice tA ts.length tc] 106 (0, 0))) := Lib.hid ((hgrow13.block gb (lt_of_blk HB3.out) (fun e => rowNe HD3.out HB3.out (by decide) gb e.symm rfl)).trans HB3.out)
                  have HT4 := Lib.hid (own_ty HT3.out (S := fun g => (Value.slice dA ls.length dc).ownBlock = some g) ((Upd.refl _ _).grown hgrow13 (fun g hg => .inr hg)) (tyIn_row HD3.out) (by decide))
                  have HD4 := HO13
                  have HU4 := Lib.hid (HU3.out.grown hgrow13 (fun g hg => .inr (.inr (.inr hg))))
                  clear hown13 hgrow13
                  have HS4 : Hid ((fun w' => w'.cell? ⟨gb, 3, none⟩ = some (.slice tA ts.length tc) ∧ w'.cell? ⟨gb, 2, none⟩ = some (.slice dA ls.length dc)) w13) := Lib.hid ⟨(cell_of_blk HB4.out 3), (cell_of_blk HB4.out 2)⟩
                  refine ⟨fun _ => HS4.out, ?_⟩
                  refine bar_norm (by go_simp; all_goals exact rfl) ?_
                  refine bar_pure 14 (.pointer (some ⟨gb, 0, none⟩)) rfl (by kernel_rfl) (by kernel_rfl) (by kernel_rfl) (by kernel_rfl) (fun _ _ _ h => h) (by rfl) (fun w7 => by go_simp) (fun _ => HS4.out) ?_
                  refine bar_norm (by go_simp; all_goals exact rfl) ?_
                  refine bar_pure 15 (.pointer (some ⟨gb, 3, none⟩)) rfl (by kernel_rfl) (by kernel_rfl) (by kernel_rfl) (by kernel_rfl) (fun _ _ _ h => h) (by rfl) (fun w7 => by go_simp) (fun _ => HS4.out) ?_
                  refine bar_norm (by go_simp; all_goals exact rfl) ?_
                  refine bar1 16 (by kernel_rfl) ?_
                  refine op_store1 rfl (by rfl) 104 _ _ rfl ⟨gb, 3, none⟩ rfl (.slice A7 (ts.length + 1) c7) rfl rfl rfl size_bools _ (cell_of_blk HB4.out 3) (free_of_blk HB4.out 3) ?_
                  have HBs := Lib.hid (blk_set HB4.out 3 (.slice A7 (ts.length + 1) c7))
                  refine ⟨fun e => by simp [openB] at e, ?_⟩
                  refine bar_norm (by go_simp; all_goals exact rfl) ?_
                  refine bar_pure 17 (.pointer (some ⟨gb, 0, none⟩)) rfl (by kernel_rfl) (by kernel_rfl) (by kernel_rfl) (by kernel_rfl) (fun _ _ _ h => h) (by rfl) (fun w7 => by go_simp) (fun e => by simp [openB] at e) ?_
                  refine bar_norm (by go_simp; all_goals exact rfl) ?_
                  refine bar_pure 18 (.pointer (some ⟨gb, 2, none⟩)) rfl (by kernel_rfl) (by kernel_rfl) (by kernel_rfl) (by kernel_rfl) (fun _ _ _ h => h) (by rfl) (fun w7 => by go_simp) (fun e => by simp [openB] at e) ?_
                  refine bar_norm (by go_simp; all_goals exact rfl) ?_
                  refine bar1 19 (by kernel_rfl) ?_
                  refine op_store1 rfl (by rfl) 103 _ _ rfl ⟨gb, 2, none⟩ rfl (.slice A13 (ls.length + 1) c13) rfl rfl rfl size_laids _ (cell_of_blk HBs.out 2) (free_of_blk HBs.out 2) ?_
                  refine ⟨fun e => by simp [openB] at e, ?_⟩
                  refine bar_norm (by go_simp; all_goals exact rfl) ?_
                  refine bar_done (by kernel_rfl) ?_ _
                  have HR := Lib.hid (moreT_fin HGT.out HU4.out HB4.out HT4.out HD4.out)
                  go_wp2_with fail
                  exact ⟨⟨_, _, _, _, _, HR.out.1, HF.out.1, HF.out.2.1, HF.out.2.2.1, HUT.out.trans HR.out.2.1, HKT.out.trans HR.out.2.2.2⟩, by rw [HLA2.out, HR.out.2.2.1]; exact HF.out.2.2.2⟩
              · --TAIL
                have hle2 : ¬ (ts.length : Int) ≤ k := by omega
                have HL2' := Lib.hid hlt2
                clear hlt2
                have HTS := Lib.hid (show ts = padL D3.ts (k + 1) false by rw [← HPT.out.1, padL_done _ _ _ (by have := HL2'.out; omega)])
                have HLS := Lib.hid (show ls = padL D3.ls (k + 1) [] by
                  have h1 : ls.length = ts.length := HGT.out.len
                  rw [← HPT.out.2, padL_done _ _ _ (by have := HL2'.out; omega)])
                have HRW4 := Lib.hid (own_keeps (own_keeps HRW3.out (HKE2.out _ nodeT)) (HKT.out _ nodeT))
                have HNB4 := Lib.hid (HKT.out _ nodeT _ _ _ (HKE2.out _ nodeT _ _ _ HQ3.out))
                obtain ⟨V4, D4, hg4, r0, r1, r2, r3, r4, r5⟩ : ∃ V4 D4, GrAt B wr gb V4 D4 ∧ V4.bb = V3.bb ∧ D4.es = D3.es ∧ D4.ls = padL D3.ls (k + 1) [] ∧ D4.ts = padL D3.ts (k + 1) false ∧ D4.n = D3.n ∧ D4.l = D3.l := ⟨_, _, HGT.out, rfl, rfl, HLS.out, HTS.out, rfl, rfl⟩
                have hkt : k < D4.ts.length := by rw [r3, padL_len]; omega
                have hke : k < D4.es.length := by rw [r1, HQS.out.2.1, padL_len]; omega
                have hkl : k < D4.ls.length := by rw [hg4.len]; exact hkt
                obtain ⟨tg, tc', htv⟩ : ∃ g c, V4.tv = .slice (some ⟨g, 0, none⟩) D4.ts.length c := by
                  rcases own_form hg4.tr with ⟨_, h0⟩ | ⟨g, c, h1, _⟩
                  · omega
                  · exact ⟨g, c, h1⟩
                obtain ⟨eg, ec, hev⟩ : ∃ g c, V4.ev = .slice (some ⟨g, 0, none⟩) D4.es.length c := by
                  rcases own_form hg4.er with ⟨_, h0⟩ | ⟨g, c, h1, _⟩
                  · omega
                  · exact ⟨g, c, h1⟩
                obtain ⟨lg, lc, hdv⟩ : ∃ g c, V4.dv = .slice (some ⟨g, 0, none⟩) D4.ls.length c := by
                  rcases own_form hg4.dr with ⟨_, h0⟩ | ⟨g, c, h1, _⟩
                  · omega
                  · exact ⟨g, c, h1⟩
                have HOD := Lib.hid (⟨r0, r1, r2, r3, r4, r5⟩ : V4.bb = V3.bb ∧ D4.es = D3.es ∧ D4.ls = padL D3.ls (k + 1) [] ∧ D4.ts = padL D3.ts (k + 1) false ∧ D4.n = D3.n ∧ D4.l = D3.l)
                clear e3
                have t3 : wr.cell? ⟨gb, 3, none⟩ = some (.slice (some ⟨tg, 0, none⟩) D4.ts.length tc') := by have := cell_of_blk hg4.blk 3; rw [htv] at this; exact this
                have htr := hg4.tr
                rw [htv] at htr
                have tk : wr.cell? ⟨tg, k, none⟩ = some (.bool (D4.ts.getD k false)) := by
                  have := htr.cells (g := tg) rfl k (.bool (D4.ts.getD k false)) (by rw [List.getElem?_map, List.getD_eq_getElem?_getD, List.getElem?_eq_getElem hkt]; rfl)
                  rwa [Addr.add_lit, Nat.zero_add] at this
                have tf : wr.frozen? ⟨tg, k, none⟩ = false := by
                  obtain ⟨c, hc⟩ := rowT htr (g := tg) rfl
                  exact free_of_blk hc k
                have hki1 : (k : Int) < D4.ts.length := by omega
                have hki2 : ¬ (D4.ts.length : Int) ≤ k := by omega
                have HF5 := Lib.hid (touch_fin hg4 htv hkt)
                have HKK := Lib.hid (⟨hkt, hke, hkl⟩ : k < D4.ts.length ∧ k < D4.es.length ∧ k < D4.ls.length)
                have HVV := Lib.hid (⟨hev, hdv⟩ : V4.ev = .slice (some ⟨eg, 0, none⟩) D4.es.length ec ∧ V4.dv = .slice (some ⟨lg, 0, none⟩) D4.ls.length lc)
                have HUW := Lib.hid (HU4.out.trans HUT.out)
                have HKW := Lib.hid (HK3.out.trans (HKE2.out.trans HKT.out))
                clear hle2 htr hg4 r0 r1 r2 r3 r4 r5 hkt hke hkl hev hdv
                go_wp2_with fail
                have HRW5 := Lib.hid (own_keeps HRW4.out (HF5.out.2.2 _ nodeT))
                have HNB5 := Lib.hid (HF5.out.2.2 _ nodeT _ _ _ HNB4.out)
                have HU5 := Lib.hid (HUW.out.trans HF5.out.2.1)
                have HK5 := Lib.hid (HKW.out.trans HF5.out.2.2)
                obtain ⟨D5, hg5, s1, s2, s3, s4, s5⟩ : ∃ D5, GrAt B (wr.setCell ⟨tg, k, none⟩ (.bool true)) gb V4 D5 ∧ D5.es = D4.es ∧ D5.ls = D4.ls ∧ D5.ts = D4.ts.set k true ∧ D5.n = D4.n ∧ D5.l = D4.l := ⟨_, HF5.out.1, rfl, rfl, rfl, rfl, rfl⟩
                clear HF5 t3 tk tf hki1 hki2
                generalize wr.setCell ⟨tg, k, none⟩ (.bool true) = W5 at *
                have hke : k < D5.es.length := by rw [s1]; exact HKK.out.2.1
                have hev : V4.ev = .slice (some ⟨eg, 0, none⟩) D5.es.length ec := by rw [s1]; exact HVV.out.1
                have her5 := hg5.er
                rw [hev] at her5
                have hb5 := hg5.blk
                rw [hev] at hb5
                obtain ⟨kA, kc, hvk⟩ := own_sl (hg5.ee k)
                obtain ⟨m, hm⟩ : ∃ m, m = (D5.es.getD k []).length := ⟨_, rfl⟩
                rw [← hm] at hvk
                have hee5 := hg5.ee k
                rw [hvk, ← hm] at hee5
                have hm256 : m < 256 := by
                  have h1 := (HOKD.out.h k).1
                  have h2 : D5.es.getD k [] = D2.es.getD k [] := by rw [s1, HOD.out.2.1, HQS.out.2.1, padL_getD]
                  have h3 : (D2.p.es.getD k []) = D2.es.getD k [] := rfl
                  rw [hm, h2, ← h3]; exact h1
                have HM256 := Lib.hid hm256
                have HKE5 := Lib.hid hke
                have HEV5 := Lib.hid hev
                have HVK := Lib.hid hvk
                have HME := Lib.hid hm
                have HG5 := Lib.hid hg5
                have HOD5 := Lib.hid (⟨s1, s2, s3, s4, s5⟩ : D5.es = D4.es ∧ D5.ls = D4.ls ∧ D5.ts = D4.ts.set k true ∧ D5.n = D4.n ∧ D5.l = D4.l)
                have HB5 : Hid (W5.drew.heap[gb]? = some (.cells #[.pointer (some ⟨V4.bb, 0, none⟩), .slice (some ⟨eg, 0, none⟩) D5.es.length ec, V4.dv, V4.tv] 106 (0, 0))) := Lib.hid hb5
                have HE5 := Lib.hid (ownsRow_upd her5 ((Upd.refl none' W5).drew) (fun _ _ => id))
                have HR5 := Lib.hid (ownsRow_upd hee5 ((Upd.refl none' W5).drew) (fun _ _ => id))
                have HN5 : Hid (W5.drew.heap[nb]? = some (.cells (ndc j I x).toArray 179 (0, 0))) := Lib.hid HNB5.out
                have HSS5 := Lib.hid (EdS.of HB5.out HE5.out HN5.out hke)
                rw [hvk] at HSS5
                clear hke hev her5 hb5 hvk hm hee5 hm256 hg5 s1 s2 s3 s4 s5
                have HEX := Lib.hid ((Upd.refl none' W5.drew).alloc (.cells (x.map u8v).toArray 30))
                have HB6 := Lib.hid (Ext.blk HEX.out HB5.out)
                have HE6 := Lib.hid (ownsRow_upd HE5.out HEX.out (fun _ _ => id))
                have HR6 := Lib.hid (ownsRow_upd HR5.out HEX.out (fun _ _ => id))
                have HN6 := Lib.hid (Ext.blk HEX.out HN5.out)
                have HSS6 := Lib.hid (EdS.of HB6.out HE6.out HN6.out HKE5.out)
                rw [HVK.out] at HSS6
                have HXL := Lib.hid (show (x.map u8v).length = 32 by rw [List.length_map]; exact HX32.out)
                have HSX := Lib.hid (hash_size32 x HX32.out)
                have HNW := Lib.hid (CellsAt.new W5.drew (x.map u8v) 30)
                have HX1 := Lib.hid (u8_ones x)
                have HLM := Lib.hid (show m + 1 ≤ maxLen ∧ (m + 1) * 32 ≤ 140737488355328 by unfold maxLen; have := HM256.out; omega)
                have HBW6 := Lib.hid (show B ≤ (W5.drew.alloc (.cells (x.map u8v).toArray 30)).heap.size by have h1 := lt_of_blk HB6.out; have h2 := HG5.out.low; omega)
                obtain ⟨ih, hih0, hihz, hihs, hihb⟩ := info_parts info_hash
                refine region_bar (EdS gb eg D5.es.length ec k nb (.slice kA m kc) x) [16] (by kernel_rfl) ?_
                change wpAnyB _ _ _ _ _ _ _ _ _ (World.drew _)
                refine bar_pure 0 (.pointer (some ⟨gb, 0, none⟩)) rfl (by kernel_rfl) (by kernel_rfl) (by kernel_rfl) (by kernel_rfl) (fun _ _ _ h => h) (by rfl) (fun w7 => by go_simp) (fun _ => HSS5.out) ?_
                refine bar_norm (by go_simp; all_goals exact rfl) ?_
                refine bar_pure 1 (.pointer (some ⟨gb, 0, none⟩)) rfl (by kernel_rfl) (by kernel_rfl) (by kernel_rfl) (by kernel_rfl) (fun _ _ _ h => h) (by rfl) (fun w7 => by go_simp) (fun _ => HSS5.out) ?_
                refine bar_norm (by go_simp; all_goals exact rfl) ?_
                refine bar_pure 2 (.pointer (some ⟨gb, 1, none⟩)) rfl (by kernel_rfl) (by kernel_rfl) (by kernel_rfl) (by kernel_rfl) (fun _ _ _ h => h) (by rfl) (fun w7 => by go_simp) (fun _ => HSS5.out) ?_
                refine bar_norm (by go_simp; all_goals exact rfl) ?_
                refine bar_read 3 (.slice (some ⟨eg, 0, none⟩) D5.es.length ec) rfl (by kernel_rfl) (by kernel_rfl) (by kernel_rfl) (by kernel_rfl) (by kernel_rfl) (fun _ _ _ h => h) (by rfl) (fun w7 h7 => run_ld1 w7 rfl ⟨gb, 1, none⟩ _ rfl Tryz.underlying33 rfl h7.e) HSS5.out ?_
                refine bar_norm (by go_simp; all_goals exact rfl) ?_
                refine bar_pure 4 (.int .i64 k) rfl (by kernel_rfl) (by kernel_rfl) (by kernel_rfl) (by kernel_rfl) (fun _ _ _ h => h) (by rfl) (fun w7 => by go_simp) (fun _ => HSS5.out) ?_
                refine bar_norm (by go_simp; all_goals exact rfl) ?_
                refine bar_pure 5 (.pointer (some ⟨gb, 0, none⟩)) rfl (by kernel_rfl) (by kernel_rfl) (by kernel_rfl) (by kernel_rfl) (fun _ _ _ h => h) (by rfl) (fun w7 => by go_simp) (fun _ => HSS5.out) ?_
                refine bar_norm (by go_simp; all_goals exact rfl) ?_
                refine bar_pure 6 (.pointer (some ⟨gb, 0, none⟩)) rfl (by kernel_rfl) (by kernel_rfl) (by kernel_rfl) (by kernel_rfl) (fun _ _ _ h => h) (by rfl) (fun w7 => by go_simp) (fun _ => HSS5.out) ?_
                refine bar_norm (by go_simp; all_goals exact rfl) ?_
                refine bar_pure 7 (.pointer (some ⟨gb, 1, none⟩)) rfl (by kernel_rfl) (by kernel_rfl) (by kernel_rfl) (by kernel_rfl) (fun _ _ _ h => h) (by rfl) (fun w7 => by go_simp) (fun _ => HSS5.out) ?_
                refine bar_norm (by go_simp; all_goals exact rfl) ?_
                refine bar_read 8 (.slice (some ⟨eg, 0, none⟩) D5.es.length ec) rfl (by kernel_rfl) (by kernel_rfl) (by kernel_rfl) (by kernel_rfl) (by kernel_rfl) (fun _ _ _ h => h) (by rfl) (fun w7 h7 => run_ld1 w7 rfl ⟨gb, 1, none⟩ _ rfl Tryz.underlying33 rfl h7.e) HSS5.out ?_
                refine bar_norm (by go_simp; all_goals exact rfl) ?_
                refine bar_pure 9 (.int .i64 k) rfl (by kernel_rfl) (by kernel_rfl) (by kernel_rfl) (by kernel_rfl) (fun _ _ _ h => h) (by rfl) (fun w7 => by go_simp) (fun _ => HSS5.out) ?_
                refine bar_norm (by go_simp; all_goals exact rfl) ?_
                refine bar_pure 10 (.pointer (some ⟨eg, k, none⟩)) rfl (by kernel_rfl) (by kernel_rfl) (by kernel_rfl) (by kernel_rfl) (fun _ _ _ h => h) (by rfl) (fun w7 => run_ixSl w7 rfl eg D5.es.length ec k 65 rfl rfl HKE5.out Tryz.underlying33 size_hashes) (fun _ => HSS5.out) ?_
                refine bar_norm (by go_simp; all_goals exact rfl) ?_
                refine bar_read 11 (.slice kA m kc) rfl (by kernel_rfl) (by kernel_rfl) (by kernel_rfl) (by kernel_rfl) (by kernel_rfl) (fun _ _ _ h => h) (by rfl) (fun w7 h7 => run_ld1 w7 rfl ⟨eg, k, none⟩ _ rfl Tryz.underlying65 rfl h7.c) HSS5.out ?_
                refine bar_norm (by go_simp; all_goals exact rfl) ?_
                refine bar_pure 12 (.pointer (some ⟨nb, 2, none⟩)) rfl (by kernel_rfl) (by kernel_rfl) (by kernel_rfl) (by kernel_rfl) (fun _ _ _ h => h) (by rfl) (fun w7 => by go_simp) (fun _ => HSS5.out) ?_
                refine bar_norm (by go_simp; all_goals exact rfl) ?_
                refine bar_read 13 (.agg (x.map u8v).toArray) rfl (by kernel_rfl) (by kernel_rfl) (by kernel_rfl) (by kernel_rfl) (by kernel_rfl) (fun _ _ _ h => h) (by rfl) (fun w7 h7 => run_ldA w7 rfl nb 2 rfl (x.map u8v) Tryz.underlying30 rfl HSX.out h7.h) HSS5.out ?_
                refine bar_norm (by go_simp; all_goals exact rfl) ?_
                refine bar1 14 (by kernel_rfl) ?_
                refine op_buildOneA rfl (by rfl) 65 30 _ rfl (x.map u8v) rfl Tryz.underlying65 (hash_size.trans (congrArg some HXL.out.symm)) hash_zero (by rw [HXL.out]; omega) (by rw [HXL.out]; omega) ?_
                refine ⟨fun _ => HSS6.out, ?_⟩
                refine bar_norm (by go_simp; all_goals exact rfl) ?_
                refine bar1 15 (by kernel_rfl) ?_
                refine op_app1 rfl (by rfl) _ _ 65 rfl B 30 ih _ 32 32 Tryz.underlying65 hih0 hihz hihs hihb rfl (by decide) (.slice kA m kc) m _ rfl HR6.out ⟨W5.heap.size, 0, none⟩ 1 1 (x.map u8v) rfl (by rw [HXL.out]) ?_ HX1.out HLM.out.1 HLM.out.2 HBW6.out ?_
                · intro i u hu
                  obtain ⟨ad, e, hc⟩ := HNW.out i u hu
                  obtain rfl := Option.some.inj e
                  exact hc
                intro v7 w7 hown7 hgrow7 hat7
                obtain ⟨A7, c7, rfl⟩ := own_sl hown7
                have u7 : Upd (fun g => (Value.slice kA m kc).ownBlock = some g) (W5.drew.alloc (.cells (x.map u8v).toArray 30)) w7 := (Upd.refl _ _).grown hgrow7 (fun g hg => .inr hg)
                have HB7 := Lib.hid (blk_ty HB6.out u7 (tyIn_row HR6.out) (by decide))
                have HE7 := Lib.hid (own_ty HE6.out u7 (tyIn_row HR6.out) (by decide))
                have HN7 := Lib.hid (blk_ty HN6.out u7 (tyIn_row HR6.out) (by decide))
                have HSS7 := Lib.hid (EdS.of HB7.out HE7.out HN7.out HKE5.out)
                rw [HVK.out] at HSS7
                have HUQ : Hid (Upd (fun g => (V4.vs.getD k nilS).ownBlock = some g) W5 w7) := Lib.hid (((Upd.refl _ W5).drew.alloc (.cells (x.map u8v).toArray 30)).grown hgrow7 (fun g hg => .inr (by rw [HVK.out]; exact hg)))
                have HAT7 : Hid (∀ g, (Value.slice A7 (m + 1) c7).ownBlock = some g → (V4.vs.getD k nilS).ownBlock = some g ∨ W5.heap.size ≤ g) := Lib.hid (fun g hg => by
                  rcases hat7 with e | e
                  · left; rw [HVK.out, ← e]; exact hg
                  · right
                    rw [e] at hg
                    obtain rfl := Option.some.inj hg
                    simp)
                have HOW7 := Lib.hid hown7
                clear hown7 hgrow7 hat7 u7
                refine ⟨fun _ => HSS7.out, ?_⟩
                refine bar_norm (by go_simp; all_goals exact rfl) ?_
                refine bar1 16 (by kernel_rfl) ?_
                refine op_val (v := .pointer (some ⟨eg, k, none⟩)) (w' := w7) rfl (by rfl) (run_ixSl w7 rfl eg D5.es.length ec k 65 rfl rfl HKE5.out Tryz.underlying33 size_hashes) ?_
                refine ⟨fun e => by simp [openB] at e, ?_⟩
                refine bar_norm (by go_simp; all_goals exact rfl) ?_
                refine bar1 17 (by kernel_rfl) ?_
                refine op_store1 rfl (by rfl) 65 _ _ rfl ⟨eg, k, none⟩ rfl (.slice A7 (m + 1) c7) rfl rfl rfl size_hashes _ HSS7.out.c (by obtain ⟨c, hc⟩ := rowT HE7.out (g := eg) rfl; exact free_of_blk hc k) ?_
                refine ⟨fun e => by simp [openB] at e, ?_⟩
                refine bar_norm (by go_simp; all_goals exact rfl) ?_
                refine bar_done (by kernel_rfl) ?_ _
                have HP6 := Lib.hid (push_fin HG5.out HKE5.out HEV5.out HUQ.out HME.out.symm HOW7.out HAT7.out)
                obtain ⟨V6, D6, hg6, z0, z1, z2, z3, z4, z5, z6, z7, z8⟩ : ∃ V6 D6, GrAt B (w7.setCell ⟨eg, k, none⟩ (.slice A7 (m + 1) c7)) gb V6 D6 ∧ V6.bb = V4.bb ∧ V6.vs.getD k nilS = .slice A7 (m + 1) c7 ∧ V6.ev = .slice (some ⟨eg, 0, none⟩) D6.es.length ec ∧ V6.dv = .slice (some ⟨lg, 0, none⟩) D6.ls.length lc ∧ D6.es = D5.es.set k (D5.es.getD k [] ++ [x]) ∧ D6.ls = D5.ls ∧ D6.ts = D5.ts ∧ D6.n = D5.n ∧ D6.l = D5.l := by
                  refine ⟨_, _, HP6.out.1, rfl, ?_, ?_, ?_, rfl, rfl, rfl, rfl, rfl⟩
                  · show (V4.vs.set k _).getD k nilS = _
                    rw [getD_put _ _ _ _ _ (by have := HG5.out.er.1; have := HKE5.out; omega), if_pos rfl]
                  · show V4.ev = _
                    rw [HEV5.out]
                    show _ = Value.slice _ (D5.es.set k _).length _
                    rw [List.length_set]
                  · show V4.dv = Value.slice _ D5.ls.length _
                    rw [HOD5.out.2.1]; exact HVV.out.2
                have HRW6 := Lib.hid (own_keeps HRW5.out (HP6.out.2.2 _ nodeT))
                have HNB6 := Lib.hid (HP6.out.2.2 _ nodeT _ _ _ HNB5.out)
                have HU6 := Lib.hid (HU5.out.trans HP6.out.2.1)
                have HKF6 := Lib.hid (HK5.out.trans HP6.out.2.2)
                clear HP6
                generalize w7.setCell ⟨eg, k, none⟩ (.slice A7 (m + 1) c7) = W6 at *
                have HSUM : Hid (D6.es = (padL D2.es (k + 1) []).set k (D2.es.getD k [] ++ [x]) ∧ D6.ls = padL D2.ls (k + 1) [] ∧ D6.ts = (padL D2.ts (k + 1) false).set k true ∧ D6.n = n + 1 ∧ D6.l = l' ∧ V6.bb = bb ∧ (D2.es.getD k []).length = m) := Lib.hid (by
                  have a := HQS.out; have b := HOD.out; have c := HOD5.out
                  have e5 : D5.es = padL D2.es (k + 1) [] := by rw [c.1, b.2.1, a.2.1]
                  exact ⟨by rw [z4, e5, padL_getD], by rw [z5, c.2.1, b.2.2.1, a.2.2.1], by rw [z6, c.2.2.1, b.2.2.2.1, a.2.2.2.1], by rw [z7, c.2.2.2.1, b.2.2.2.2.1, a.2.2.2.2.1]; exact HDL.out.1, by rw [z8, c.2.2.2.2, b.2.2.2.2.2, a.2.2.2.2.2]; exact HDL.out.2, by rw [z0, b.1, a.1]; exact HVB.out, by rw [HME.out, e5, padL_getD]⟩)
                have hke6 : k < D6.es.length := by rw [z4, List.length_set]; exact HKE5.out
                have hkl6 : k < D6.ls.length := by rw [z5, HOD5.out.2.1]; exact HKK.out.2.2
                have HK6 := Lib.hid (⟨hke6, hkl6⟩ : k < D6.es.length ∧ k < D6.ls.length)
                have HV6 := Lib.hid (⟨z1, z2, z3⟩ : V6.vs.getD k nilS = .slice A7 (m + 1) c7 ∧ V6.ev = .slice (some ⟨eg, 0, none⟩) D6.es.length ec ∧ V6.dv = .slice (some ⟨lg, 0, none⟩) D6.ls.length lc)
                have HG6 := Lib.hid hg6
                have her6 := hg6.er
                rw [z2] at her6
                have hdr6 := hg6.dr
                rw [z3] at hdr6
                have hb6 := hg6.blk
                rw [z2, z3] at hb6
                obtain ⟨m1, hm1⟩ : ∃ m1, m1 = m + 1 := ⟨_, rfl⟩
                have HM1 := Lib.hid hm1
                have hfs := FuS.of hb6 her6 hdr6 HNB6.out hke6 hkl6
                rw [z1, ← hm1] at hfs
                have HB6 := Lib.hid hb6
                have HE6 := Lib.hid her6
                have HD6 := Lib.hid hdr6
                have c1 := hfs.e
                have ck := hfs.c
                have HFS := Lib.hid hfs
                clear hb6 her6 hdr6 hg6 z0 z1 z2 z3 z4 z5 z6 z7 z8 hm1 hfs hkl6 HSS5 HSS6 HSS7 HB7 HE7 HN7 HN6 HR6 HUQ HAT7 HOW7 HB5 HE5 HR5 HN5
                have hki6 : (k : Int) < D6.es.length := by omega
                have HIN : Hid (pushes n l y G0 ((j + 1 + 7) / 8) = pushP k x I D2.p) := Lib.hid (by
                  have h1 := HM.out; have h2 := HK.out
                  rw [show (j + 1 + 7) / 8 = k + 1 by omega, pushes_succ, HXE.out, HIE.out, HDP.out, show (j + 7) / 8 = k by omega, show 8 * k = j by omega])
                clear hke6
                by_cases h256 : m1 = 256
                · have hmi : (m1 : Int) = 256 := by omega
                  have H256 := Lib.hid h256
                  clear h256
                  go_wp2_with fail
                  have hwk : IntKind.u8.wrap (k : Int) = k := by rw [IntKind.wrap_u8']; omega
                  obtain ⟨q, hq⟩ : ∃ q, q = I / 256 := ⟨_, rfl⟩
                  have hqi : (I : Int) / 256 = (q : Nat) := by rw [hq]; simp
                  have hwq : IntKind.u64.wrap (q : Int) = q := by
                    have h1 := HBND.out.1
                    have h2 : I ≤ n := by rw [HIE.out]; exact Nat.div_le_self _ _
                    rw [IntKind.wrap_u64]; omega
                  have HQE := Lib.hid hq
                  obtain ⟨dA, dlc, hdk⟩ := own_sl (HG6.out.de k)
                  obtain ⟨ml, hml⟩ : ∃ ml, ml = (D6.ls.getD k []).length := ⟨_, rfl⟩
                  rw [← hml] at hdk
                  have hde6 := HG6.out.de k
                  rw [hdk, ← hml] at hde6
                  have HDK := Lib.hid hdk
                  have HML := Lib.hid hml
                  have hfs := HFS.out
                  rw [hdk] at hfs
                  have HLS1 : Hid (ml ≤ M + k) := Lib.hid (by
                    have h1 := HOKD.out.l k
                    have h2 : D2.p.ls = D2.ls.map (fun l => l.map LaidD.p) := rfl
                    have h3 : (D2.ls.map (fun l => l.map LaidD.p)).getD k [] = (D2.ls.getD k []).map LaidD.p := map_getD (fun l => l.map LaidD.p) D2.ls k []
                    rw [h2, h3, List.length_map] at h1
                    rw [hml, HSUM.out.2.1, padL_getD]
                    exact h1)
                  have HSS5 : Hid (FuS gb eg D6.es.length ec lg D6.ls.length lc k nb I (.slice A7 m1 c7) (.slice dA ml dlc) W6.drew) := Lib.hid ⟨hfs.e, hfs.c, hfs.d, hfs.l, hfs.n⟩
                  have HB7 : Hid (W6.drew.heap[gb]? = some (.cells #[.pointer (some ⟨V6.bb, 0, none⟩), .slice (some ⟨eg, 0, none⟩) D6.es.length ec, .slice (some ⟨lg, 0, none⟩) D6.ls.length lc, V6.tv] 106 (0, 0))) := Lib.hid HB6.out
                  have HE7 := Lib.hid (ownsRow_upd HE6.out ((Upd.refl none' W6).drew) (fun _ _ => id))
                  have HD7 := Lib.hid (ownsRow_upd HD6.out ((Upd.refl none' W6).drew) (fun _ _ => id))
                  have HR7 := Lib.hid (ownsRow_upd hde6 ((Upd.refl none' W6).drew) (fun _ _ => id))
                  have HN7 : Hid (W6.drew.heap[nb]? = some (.cells (ndc j I x).toArray 179 (0, 0))) := Lib.hid HNB6.out
                  have hv2 : V6.vs.getD k nilS = .slice A7 m1 c7 := by rw [HV6.out.1, HM1.out]
                  have HV2 := Lib.hid hv2
                  clear hdk hml hfs hde6 c1 ck hv2 hq
                  have HEX := Lib.hid ((Upd.refl none' W6.drew).alloc (.cells ([.int .u8 k, .int .u64 q, .int .i64 256, .slice A7 m1 c7] : List Value).toArray 117))
                  have HB8 := Lib.hid (Ext.blk HEX.out HB7.out)
                  have HE8 := Lib.hid (ownsRow_upd HE7.out HEX.out (fun _ _ => id))
                  have HD8 := Lib.hid (ownsRow_upd HD7.out HEX.out (fun _ _ => id))
                  have HR8 := Lib.hid (ownsRow_upd HR7.out HEX.out (fun _ _ => id))
                  have HN8 := Lib.hid (Ext.blk HEX.out HN7.out)
                  have HSS8 := Lib.hid (FuS.of HB8.out HE8.out HD8.out HN8.out HK6.out.1 HK6.out.2)
                  rw [HV2.out, HDK.out] at HSS8
                  have HNW := Lib.hid (CellsAt.new W6.drew [.int .u8 k, .int .u64 q, .int .i64 256, .slice A7 m1 c7] 117)
                  have HX1 : Hid (∀ u ∈ ([.int .u8 k, .int .u64 q, .int .i64 256, .slice A7 m1 c7] : List Value), u.oneCell' = true) := Lib.hid (by
                    intro u hu
                    simp only [List.mem_cons, List.not_mem_nil, or_false] at hu
                    rcases hu with rfl | rfl | rfl | rfl <;> rfl)
                  have HLM2 := Lib.hid (show ml + 1 ≤ maxLen ∧ (ml + 1) * 48 ≤ 140737488355328 by unfold maxLen; have := HLS1.out; have := HOK.out.1; omega)
                  have HBW8 := Lib.hid (show B ≤ (W6.drew.alloc (.cells ([.int .u8 k, .int .u64 q, .int .i64 256, .slice A7 m1 c7] : List Value).toArray 117)).heap.size by have h1 := lt_of_blk HB8.out; have h2 := HG6.out.low; omega)
                  obtain ⟨j0, jz, hj0, hjz, hjs, hjb, hjc⟩ := laid_parts
                  refine region_bar (FuS gb eg D6.es.length ec lg D6.ls.length lc k nb I (.slice A7 m1 c7) (.slice dA ml dlc)) [29] (by kernel_rfl) ?_
                  change wpAnyB _ _ _ _ _ _ _ _ _ (World.drew _)
                  refine bar_pure 0 (.pointer (some ⟨gb, 0, none⟩)) rfl (by kernel_rfl) (by kernel_rfl) (by kernel_rfl) (by kernel_rfl) (fun _ _ _ h => h) (by rfl) (fun w7 => by go_simp) (fun _ => HSS5.out) ?_
                  refine bar_norm (by go_simp; all_goals exact rfl) ?_
                  refine bar_pure 1 (.pointer (some ⟨gb, 0, none⟩)) rfl (by kernel_rfl) (by kernel_rfl) (by kernel_rfl) (by kernel_rfl) (fun _ _ _ h => h) (by rfl) (fun w7 => by go_simp) (fun _ => HSS5.out) ?_
                  refine bar_norm (by go_simp; all_goals exact rfl) ?_
                  refine bar_pure 2 (.pointer (some ⟨gb, 2, none⟩)) rfl (by kernel_rfl) (by kernel_rfl) (by kernel_rfl) (by kernel_rfl) (fun _ _ _ h => h) (by rfl) (fun w7 => by go_simp) (fun _ => HSS5.out) ?_
                  refine bar_norm (by go_simp; all_goals exact rfl) ?_
                  refine bar_read 3 (.slice (some ⟨lg, 0, none⟩) D6.ls.length lc) rfl (by kernel_rfl) (by kernel_rfl) (by kernel_rfl) (by kernel_rfl) (by kernel_rfl) (fun _ _ _ h => h) (by rfl) (fun w7 h7 => run_ld1 w7 rfl ⟨gb, 2, none⟩ _ rfl Tryz.underlying103 rfl h7.d) HSS5.out ?_
                  refine bar_norm (by go_simp; all_goals exact rfl) ?_
                  refine bar_pure 4 (.int .i64 k) rfl (by kernel_rfl) (by kernel_rfl) (by kernel_rfl) (by kernel_rfl) (fun _ _ _ h => h) (by rfl) (fun w7 => by go_simp) (fun _ => HSS5.out) ?_
                  refine bar_norm (by go_simp; all_goals exact rfl) ?_
                  refine bar_pure 5 (.pointer (some ⟨gb, 0, none⟩)) rfl (by kernel_rfl) (by kernel_rfl) (by kernel_rfl) (by kernel_rfl) (fun _ _ _ h => h) (by rfl) (fun w7 => by go_simp) (fun _ => HSS5.out) ?_
                  refine bar_norm (by go_simp; all_goals exact rfl) ?_
                  refine bar_pure 6 (.pointer (some ⟨gb, 0, none⟩)) rfl (by kernel_rfl) (by kernel_rfl) (by kernel_rfl) (by kernel_rfl) (fun _ _ _ h => h) (by rfl) (fun w7 => by go_simp) (fun _ => HSS5.out) ?_
                  refine bar_norm (by go_simp; all_goals exact rfl) ?_
                  refine bar_pure 7 (.pointer (some ⟨gb, 2, none⟩)) rfl (by kernel_rfl) (by kernel_rfl) (by kernel_rfl) (by kernel_rfl) (fun _ _ _ h => h) (by rfl) (fun w7 => by go_simp) (fun _ => HSS5.out) ?_
                  refine bar_norm (by go_simp; all_goals exact rfl) ?_
                  refine bar_read 8 (.slice (some ⟨lg, 0, none⟩) D6.ls.length lc) rfl (by kernel_rfl) (by kernel_rfl) (by kernel_rfl) (by kernel_rfl) (by kernel_rfl) (fun _ _ _ h => h) (by rfl) (fun w7 h7 => run_ld1 w7 rfl ⟨gb, 2, none⟩ _ rfl Tryz.underlying103 rfl h7.d) HSS5.out ?_
                  refine bar_norm (by go_simp; all_goals exact rfl) ?_
                  refine bar_pure 9 (.int .i64 k) rfl (by kernel_rfl) (by kernel_rfl) (by kernel_rfl) (by kernel_rfl) (fun _ _ _ h => h) (by rfl) (fun w7 => by go_simp) (fun _ => HSS5.out) ?_
                  refine bar_norm (by go_simp; all_goals exact rfl) ?_
                  refine bar_pure 10 (.pointer (some ⟨lg, k, none⟩)) rfl (by kernel_rfl) (by kernel_rfl) (by kernel_rfl) (by kernel_rfl) (fun _ _ _ h => h) (by rfl) (fun w7 => run_ixSl w7 rfl lg D6.ls.length lc k 112 rfl rfl HK6.out.2 Tryz.underlying103 size_laidSl) (fun _ => HSS5.out) ?_
                  refine bar_norm (by go_simp; all_goals exact rfl) ?_
                  refine bar_read 11 (.slice dA ml dlc) rfl (by kernel_rfl) (by kernel_rfl) (by kernel_rfl) (by kernel_rfl) (by kernel_rfl) (fun _ _ _ h => h) (by rfl) (fun w7 h7 => run_ld1 w7 rfl ⟨lg, k, none⟩ _ rfl Tryz.underlying112 rfl h7.l) HSS5.out ?_
                  refine bar_norm (by go_simp; all_goals exact rfl) ?_
                  refine bar_pure 12 (.int .i64 k) rfl (by kernel_rfl) (by kernel_rfl) (by kernel_rfl) (by kernel_rfl) (fun _ _ _ h => h) (by rfl) (fun w7 => by go_simp) (fun _ => HSS5.out) ?_
                  refine bar_norm (by go_simp; all_goals exact rfl) ?_
                  refine bar_pure 13 (.int .u8 k) rfl (by kernel_rfl) (by kernel_rfl) (by kernel_rfl) (by kernel_rfl) (fun _ _ _ h => h) (by rfl) (fun w7 => by go_simp) (fun _ => HSS5.out) ?_
                  refine bar_norm (by go_simp; all_goals exact rfl) ?_
                  refine bar_pure 14 (.pointer (some ⟨nb, 0, none⟩)) rfl (by kernel_rfl) (by kernel_rfl) (by kernel_rfl) (by kernel_rfl) (fun _ _ _ h => h) (by rfl) (fun w7 => by go_simp) (fun _ => HSS5.out) ?_
                  refine bar_norm (by go_simp; all_goals exact rfl) ?_
                  refine bar_pure 15 (.pointer (some ⟨nb, 1, none⟩)) rfl (by kernel_rfl) (by kernel_rfl) (by kernel_rfl) (by kernel_rfl) (fun _ _ _ h => h) (by rfl) (fun w7 => by go_simp) (fun _ => HSS5.out) ?_
                  refine bar_norm (by go_simp; all_goals exact rfl) ?_
                  refine bar_read 16 (.int .u64 I) rfl (by kernel_rfl) (by kernel_rfl) (by kernel_rfl) (by kernel_rfl) (by kernel_rfl) (fun _ _ _ h => h) (by rfl) (fun w7 h7 => run_ld1 w7 rfl ⟨nb, 1, none⟩ _ rfl Tryz.underlying28 rfl h7.n) HSS5.out ?_
                  refine bar_norm (by go_simp; all_goals exact rfl) ?_
                  refine bar_pure 17 (.int .u64 q) rfl (by kernel_rfl) (by kernel_rfl) (by kernel_rfl) (by kernel_rfl) (fun _ _ _ h => h) (by rfl) (fun w7 => by go_simp) (fun _ => HSS5.out) ?_
                  refine bar_norm (by go_simp; all_goals exact rfl) ?_
                  refine bar_pure 18 (.agg #[.int .u8 k, .int .u64 q, .int .i64 256]) rfl (by kernel_rfl) (by kernel_rfl) (by kernel_rfl) (by kernel_rfl) (fun _ _ _ h => h) (by rfl) (fun w7 => exec_build w7 [(0, .tmp 124), (1, .tmp 128), (2, .const (.int .i64 256))] rfl [(0, .int .u8 k), (1, .int .u64 q), (2, .int .i64 256)] _ rfl (run_tile w7 k q 256)) (fun _ => HSS5.out) ?_
                  refine bar_norm (by go_simp; all_goals exact rfl) ?_
                  refine bar_pure 19 (.pointer (some ⟨gb, 0, none⟩)) rfl (by kernel_rfl) (by kernel_rfl) (by kernel_rfl) (by kernel_rfl) (fun _ _ _ h => h) (by rfl) (fun w7 => by go_simp) (fun _ => HSS5.out) ?_
                  refine bar_norm (by go_simp; all_goals exact rfl) ?_
                  refine bar_pure 20 (.pointer (some ⟨gb, 0, none⟩)) rfl (by kernel_rfl) (by kernel_rfl) (by kernel_rfl) (by kernel_rfl) (fun _ _ _ h => h) (by rfl) (fun w7 => by go_simp) (fun _ => HSS5.out) ?_
                  refine bar_norm (by go_simp; all_goals exact rfl) ?_
                  refine bar_pure 21 (.pointer (some ⟨gb, 1, none⟩)) rfl (by kernel_rfl) (by kernel_rfl) (by kernel_rfl) (by kernel_rfl) (fun _ _ _ h => h) (by rfl) (fun w7 => by go_simp) (fun _ => HSS5.out) ?_
                  refine bar_norm (by go_simp; all_goals exact rfl) ?_
                  refine bar_read 22 (.slice (some ⟨eg, 0, none⟩) D6.es.length ec) rfl (by kernel_rfl) (by kernel_rfl) (by kernel_rfl) (by kernel_rfl) (by kernel_rfl) (fun _ _ _ h => h) (by rfl) (fun w7 h7 => run_ld1 w7 rfl ⟨gb, 1, none⟩ _ rfl Tryz.underlying33 rfl h7.e) HSS5.out ?_
                  refine bar_norm (by go_simp; all_goals exact rfl) ?_
                  refine bar_pure 23 (.int .i64 k) rfl (by kernel_rfl) (by kernel_rfl) (by kernel_rfl) (by kernel_rfl) (fun _ _ _ h => h) (by rfl) (fun w7 => by go_simp) (fun _ => HSS5.out) ?_
                  refine bar_norm (by go_simp; all_goals exact rfl) ?_
                  refine bar_pure 24 (.pointer (some ⟨eg, k, none⟩)) rfl (by kernel_rfl) (by kernel_rfl) (by kernel_rfl) (by kernel_rfl) (fun _ _ _ h => h) (by rfl) (fun w7 => run_ixSl w7 rfl eg D6.es.length ec k 65 rfl rfl HK6.out.1 Tryz.underlying33 size_hashes) (fun _ => HSS5.out) ?_
                  refine bar_norm (by go_simp; all_goals exact rfl) ?_
                  refine bar_read 25 (.slice A7 m1 c7) rfl (by kernel_rfl) (by kernel_rfl) (by kernel_rfl) (by kernel_rfl) (by kernel_rfl) (fun _ _ _ h => h) (by rfl) (fun w7 h7 => run_ld1 w7 rfl ⟨eg, k, none⟩ _ rfl Tryz.underlying65 rfl h7.c) HSS5.out ?_
                  refine bar_norm (by go_simp; all_goals exact rfl) ?_
                  refine bar_pure 26 (.agg ([.int .u8 k, .int .u64 q, .int .i64 256, .slice A7 m1 c7] : List Value).toArray) rfl (by kernel_rfl) (by kernel_rfl) (by kernel_rfl) (by kernel_rfl) (fun _ _ _ h => h) (by rfl) (fun w7 => exec_build w7 [(0, .tmp 129), (1, .tmp 136)] rfl [(0, .agg #[.int .u8 k, .int .u64 q, .int .i64 256]), (1, .slice A7 m1 c7)] _ rfl (run_laid w7 k q 256 A7 m1 c7)) (fun _ => HSS5.out) ?_
                  refine bar_norm (by go_simp; all_goals exact rfl) ?_
                  refine bar1 27 (by kernel_rfl) ?_
                  refine op_buildOneA rfl (by rfl) 112 117 _ rfl [.int .u8 k, .int .u64 q, .int .i64 256, .slice A7 m1 c7] rfl Tryz.underlying112 laid_size laid_zero (by show 0 < 4; omega) (by show 4 ≤ 16777216; omega) ?_
                  refine ⟨fun _ => HSS8.out, ?_⟩
                  refine bar_norm (by go_simp; all_goals exact rfl) ?_
                  refine bar1 28 (by kernel_rfl) ?_
                  refine op_app1 rfl (by rfl) _ _ 112 rfl B 117 j0 jz 4 48 Tryz.underlying112 hj0 hjz hjs hjb hjc (by decide) (.slice dA ml dlc) ml _ rfl HR8.out ⟨W6.heap.size, 0, none⟩ 1 1 [.int .u8 k, .int .u64 q, .int .i64 256, .slice A7 m1 c7] rfl rfl ?_ HX1.out HLM2.out.1 HLM2.out.2 HBW8.out ?_
                  · intro i u hu
                    obtain ⟨ad, e, hc⟩ := HNW.out i u hu
                    obtain rfl := Option.some.inj e
                    exact hc
                  intro v9 w9 hown9 hgrow9 hat9
                  obtain ⟨A9, c9, rfl⟩ := own_sl hown9
                  have u9 : Upd (fun g => (Value.slice dA ml dlc).ownBlock = some g) (W6.drew.alloc (.cells ([.int .u8 k, .int .u64 q, .int .i64 256, .slice A7 m1 c7] : List Value).toArray 117)) w9 := (Upd.refl _ _).grown hgrow9 (fun g hg => .inr hg)
                  have HB9 := Lib.hid (blk_ty HB8.out u9 (tyIn_row HR8.out) (by decide))
                  have HE9 := Lib.hid (own_ty HE8.out u9 (tyIn_row HR8.out) (by decide))
                  have HD9 := Lib.hid (own_ty HD8.out u9 (tyIn_row HR8.out) (by decide))
                  have HN9 := Lib.hid (blk_ty HN8.out u9 (tyIn_row HR8.out) (by decide))
                  have HSS9 := Lib.hid (FuS.of HB9.out HE9.out HD9.out HN9.out HK6.out.1 HK6.out.2)
                  rw [HV2.out, HDK.out] at HSS9
                  have HUQ : Hid (Upd (fun g => (V6.dvs.getD k nilS).ownBlock = some g) W6 w9) := Lib.hid (((Upd.refl _ W6).drew.alloc _).grown hgrow9 (fun g hg => .inr (by rw [HDK.out]; exact hg)))
                  have HAT9 : Hid (∀ g, (Value.slice A9 (ml + 1) c9).ownBlock = some g → (V6.dvs.getD k nilS).ownBlock = some g ∨ W6.heap.size ≤ g) := Lib.hid (fun g hg => by
                    rcases hat9 with e | e
                    · left; rw [HDK.out, ← e]; exact hg
                    · right
                      rw [e] at hg
                      obtain rfl := Option.some.inj hg
                      simp)
                  have HOW9 : Hid (w9.ownsRow B 117 4 (.slice A9 (ml + 1) c9) (ml + 1) (laidCs (D6.ls.getD k []) ++ [.int .u8 k, .int .u64 q, .int .i64 256, V6.vs.getD k nilS])) := Lib.hid (by rw [HV2.out]; exact hown9)
                  clear hown9 hgrow9 hat9 u9
                  refine ⟨fun _ => HSS9.out, ?_⟩
                  refine bar_norm (by go_simp; all_goals exact rfl) ?_
                  refine bar1 29 (by kernel_rfl) ?_
                  refine op_val (v := .pointer (some ⟨lg, k, none⟩)) (w' := w9) rfl (by rfl) (run_ixSl w9 rfl lg D6.ls.length lc k 112 rfl rfl HK6.out.2 Tryz.underlying103 size_laidSl) ?_
                  refine ⟨fun e => by simp [openB] at e, ?_⟩
                  refine bar_norm (by go_simp; all_goals exact rfl) ?_
                  refine bar1 30 (by kernel_rfl) ?_
                  refine op_store1 rfl (by rfl) 112 _ _ rfl ⟨lg, k, none⟩ rfl (.slice A9 (ml + 1) c9) rfl rfl rfl size_laidSl _ HSS9.out.l (by obtain ⟨c, hc⟩ := rowT HD9.out (g := lg) rfl; exact free_of_blk hc k) ?_
                  refine ⟨fun e => by simp [openB] at e, ?_⟩
                  refine bar_norm (by go_simp; all_goals exact rfl) ?_
                  refine bar_done (by kernel_rfl) ?_ _
                  have HP7 := Lib.hid (full_fin (i := q) HG6.out HK6.out.1 HK6.out.2 HV6.out.2.1 HV6.out.2.2 HUQ.out HML.out.symm HOW9.out HAT9.out)
                  have HB10 := Lib.hid (show (w9.setCell ⟨lg, k, none⟩ (.slice A9 (ml + 1) c9)).heap[gb]? = _ by
                    obtain ⟨cl, hcl⟩ := rowT HD9.out (g := lg) rfl
                    exact blk_ty HB9.out ((Upd.refl (one lg) w9).setCell (p := ⟨lg, k, none⟩) (.inr rfl) _) (tyIn_one hcl) (by decide))
                  have HE10 := Lib.hid (show (w9.setCell ⟨lg, k, none⟩ (.slice A9 (ml + 1) c9)).ownsRow B 65 1 (.slice (some ⟨eg, 0, none⟩) D6.es.length ec) D6.es.length V6.vs by
                    obtain ⟨cl, hcl⟩ := rowT HD9.out (g := lg) rfl
                    exact own_ty HE9.out ((Upd.refl (one lg) w9).setCell (p := ⟨lg, k, none⟩) (.inr rfl) _) (tyIn_one hcl) (by decide))
                  generalize w9.setCell ⟨lg, k, none⟩ (.slice A9 (ml + 1) c9) = W7 at *
                  have c1 : W7.cell? ⟨gb, 1, none⟩ = some (.slice (some ⟨eg, 0, none⟩) D6.es.length ec) := cell_of_blk HB10.out 1
                  have ce : W7.cell? ⟨eg, k, none⟩ = some (.slice A7 m1 c7) := by
                    have := HE10.out.cells (g := eg) rfl k (V6.vs.getD k nilS) (by rw [List.getD_eq_getElem?_getD, List.getElem?_eq_getElem (by have := HE10.out.1; have := HK6.out.1; omega)]; rfl)
                    rw [Addr.add_lit, Nat.zero_add] at this
                    rw [this, HV2.out]
                  have fe : W7.frozen? ⟨eg, k, none⟩ = false := by
                    obtain ⟨c, hc⟩ := rowT HE10.out (g := eg) rfl
                    exact free_of_blk hc k
                  go_wp2_with fail
                  have hlj := HLJ.out
                  have hpf : D6.es.getD k [] = D2.es.getD k [] ++ [x] := by rw [HSUM.out.1, getD_put _ _ _ _ _ (by rw [padL_len]; omega), if_pos rfl]
                  refine ⟨⟨j + 1, _, _, by omega, rfl, HP7.out.1, ?_, HSUM.out.2.2.2.1, HSUM.out.2.2.2.2.1, HSUM.out.2.2.2.2.2.1, own_keeps HRW6.out (HP7.out.2.2 _ nodeT), HU6.out.trans HP7.out.2.1, HKF6.out.trans HP7.out.2.2⟩, by simp [RowKit.intOf]; omega⟩
                  rw [HIN.out]
                  refine push_full (v := V6.vs.getD k nilS) ?_ ?_ HSUM.out.2.2.1 (by rw [HSUM.out.2.2.2.2.2.2, ← HM1.out]; exact H256.out)
                  · show D6.es.set k [] = _
                    rw [HSUM.out.1, List.set_set]
                  · show D6.ls.set k (D6.ls.getD k [] ++ [⟨k, q, 256, D6.es.getD k [], V6.vs.getD k nilS⟩]) = _
                    rw [hpf, HQE.out, HSUM.out.2.1, padL_getD]
                · have hmi : ¬ (m1 : Int) = 256 := by omega
                  have H256 := Lib.hid h256
                  clear h256
                  go_wp2_with fail
                  have hlj := HLJ.out
                  exact ⟨⟨j + 1, V6, D6, by omega, rfl, HG6.out, by rw [HIN.out]; exact push_no HSUM.out.1 HSUM.out.2.1 HSUM.out.2.2.1 (by rw [HSUM.out.2.2.2.2.2.2, ← HM1.out]; exact H256.out), HSUM.out.2.2.2.1, HSUM.out.2.2.2.2.1, HSUM.out.2.2.2.2.2.1, HRW6.out, HU6.out, HKF6.out⟩, by simp [RowKit.intOf]; omega⟩
                --END
      · have hmi : ¬ (j : Int) % 8 = 0 := by omega
        have HM := Lib.hid hm
        clear hm
        go_wp2_with (first
          | (refine wpList_loadAgg rfl 179 _ rfl ng (j * 34) (by go_simp) (ndc j I x) Tryz.underlying179 rfl HSZ.out HC.out ?_)
          | (refine store_new rfl 179 _ _ rfl _ _ rfl (ndc j I x) rfl HSZ.out (by rw [HNL.out]; rfl) HN1.out ?_))
        have hlj := HLJ.out
        have hmm := HM.out
        exact ⟨⟨j + 1, V2, D2, by omega, rfl, HG3.out, by rw [HDP.out, show (j + 1 + 7) / 8 = (j + 7) / 8 by omega], HDL.out.1, HDL.out.2, HVB.out, HRW3.out, HU3.out, HK3.out⟩, by simp [RowKit.intOf]; omega⟩
    · have hjo : j = o + 1 := by omega
      have hji : ¬ (j : Int) < (o : Int) + 1 := by omega
      have HJ := Lib.hid hjo
      clear hjo hlt hj
      go_wp2_with fail
      go_ret
      exact ⟨rfl, V2, D2, HG2.out, by rw [HDP.out, HJ.out, show (o + 1 + 7) / 8 = o / 8 + 1 by omega], HDL.out.1, HDL.out.2, HVB.out, HU1.out.trans HU2.out, HKG1.out.trans HKP.out⟩
end Go.Proofs.YtnkcfkjeeennmaaGreatDoor
