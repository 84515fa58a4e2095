/- codec.Reader: Hash; the calls on a reader that is not there, or that nobody made. -/
import Derived.Test.YtljnhelnmnomoaaGreatDoorReader
import Derived.Test.YtljnhelnmnomoaaGreatDoorStep
namespace Go.Proofs.YtljnhelnmnomoaaGreatDoor
open Go.RowKit Go.Lib

theorem hash_size' : (Tryz.prog.info? 120).map (·.size) = some 32 := by kernel_rfl
theorem u8_size : (Tryz.prog.info? 5).map (·.size) = some 1 := by kernel_rfl
def zeros32 : List UInt8 := List.replicate 32 0
/-- A hash, where there are 32 bytes. -/
def hashOf (l : List UInt8) : List UInt8 := if l.length = 32 then l else zeros32
/-- The next hash. -/
def RdD.hash (x : RdD) : List UInt8 × RdD :=
  if x.f ≠ none then (zeros32, x) else (hashOf (x.take 32 x.pos).1, (x.take 32 x.pos).2)
theorem hashOf_len (l : List UInt8) : (hashOf l).length = 32 := by
  unfold hashOf
  split
  · assumption
  · rfl
theorem hash_len (x : RdD) : x.hash.1.length = 32 := by
  unfold RdD.hash
  split
  · rfl
  · exact hashOf_len _
theorem take_len (x : RdD) (n : Nat) (p : Int) : (x.take n p).1.length = n ∨ (x.take n p).1 = [] := by
  unfold RdD.take
  split
  · rename_i h
    have e : x.s.data.size = x.s.size := rfl
    left; simp [RdD.rest]; omega
  · exact .inr rfl
/-- A hash that has not been filled. -/
abbrev zero32 : Array Value := #[.int .u8 0, .int .u8 0, .int .u8 0, .int .u8 0, .int .u8 0, .int .u8 0, .int .u8 0, .int .u8 0, .int .u8 0, .int .u8 0, .int .u8 0, .int .u8 0, .int .u8 0, .int .u8 0, .int .u8 0, .int .u8 0, .int .u8 0, .int .u8 0, .int .u8 0, .int .u8 0, .int .u8 0, .int .u8 0, .int .u8 0, .int .u8 0, .int .u8 0, .int .u8 0, .int .u8 0, .int .u8 0, .int .u8 0, .int .u8 0, .int .u8 0, .int .u8 0]
theorem zeros_cells : (zeros32.map u8v).toArray = zero32 := rfl
theorem over_hash (l : List UInt8) (h : l.length = 32 ∨ l = []) : over (zeros32.map u8v) 0 (l.map u8v) = ((hashOf l).map u8v) := by
  rcases h with h | rfl
  · rw [hashOf, if_pos h]; exact over_all _ _ (by rw [List.length_map, List.length_map, h]; rfl)
  · rfl
theorem body_take : hasBody Tryz.prog 124 = true := by kernel_rfl
theorem hash_fin {B b : Nat} {se : Nat → Addr} {w w1 w' : World} {S : Nat → Prop} {x y : RdD} (hB : B ≤ w.heap.size) (h : Reader B se w S b x) (hX : Ext w w1) (hsz : w.heap.size + 2 = w1.heap.size) (hR : Reader B se w' (plus S w1.heap.size w'.heap.size) b y) (hU : Upd (one b) w1 w') (c1 c2 : Array Value) :
    Reader B se ((w'.setRow (w.heap.size + 1) c1).setRow w.heap.size c2) (plus S w.heap.size ((w'.setRow (w.heap.size + 1) c1).setRow w.heap.size c2).heap.size) b y ∧ Upd (one b) w ((w'.setRow (w.heap.size + 1) c1).setRow w.heap.size c2) := by
  have hs := hU.size
  have k1 : Upd (one (w.heap.size + 1)) w' (w'.setRow (w.heap.size + 1) c1) := (Upd.refl (one (w.heap.size + 1)) w').setRow (.inr (show one _ _ from rfl)) c1
  have k2 : Upd (one w.heap.size) (w'.setRow (w.heap.size + 1) c1) ((w'.setRow (w.heap.size + 1) c1).setRow w.heap.size c2) := (Upd.refl (one w.heap.size) _).setRow (.inr (show one _ _ from rfl)) c2
  have e1 : (w'.setRow (w.heap.size + 1) c1).heap.size = w'.heap.size := by simp
  have e2 : ((w'.setRow (w.heap.size + 1) c1).setRow w.heap.size c2).heap.size = w'.heap.size := by simp
  have hlt := h.lt
  have r1 := hR.upd k1 (fun g hg e => by
    have e' : g = w.heap.size + 1 := e
    rcases hg with hg | hg
    · have := hlt g hg; omega
    · omega)
  have r2 := r1.upd k2 (fun g hg e => by
    have e' : g = w.heap.size := e
    rcases hg with hg | hg
    · have := hlt g hg; omega
    · omega)
  refine ⟨r2.weaken (fun k hk => hk.elim .inl (fun hk => .inr ⟨by omega, by omega⟩)) (fun k hk => ⟨hk.elim (h.low k) (fun hk => by omega), hk.elim (fun hk => by have := hlt k hk; omega) (fun hk => hk.2)⟩), ?_⟩
  exact (((Upd.ext hX _).trans (hU.mono (fun _ _ h => h))).setRow (.inl (by omega)) c1).setRow (.inl (by omega)) c2
set_option maxRecDepth 8000 in
set_option maxHeartbeats 1000000 in
theorem hash_yes {B b : Nat} {se : Nat → Addr} {w : World} {S : Nat → Prop} {x : RdD} (G : Genv B se w) (h : Reader B se w S b x) (hf : x.f = none) :
    Calls Tryz.prog 106 #[.pointer (some ⟨b, 0, none⟩)] w fun e w' => e = .returned (.agg (x.hash.1.map u8v).toArray) ∧ Reader B se w' (plus S w.heap.size w'.heap.size) b x.hash.2 ∧ Upd (one b) w w' := by
  have HG := Lib.hid G
  have HH := Lib.hid h
  have X := ((Upd.refl none' w).alloc (.cells zero32 120)).alloc (.cells zero32 120)
  have C : Calls Tryz.prog 123 #[.pointer (some ⟨b, 0, none⟩)] ((w.alloc (.cells zero32 120)).alloc (.cells zero32 120)) fun e w' => e = .returned (.bool true) ∧
      (Ext w w' ∧ w.heap.size + 2 = w'.heap.size ∧ w'.heap[w.heap.size]? = some (.cells (zeros32.map u8v).toArray 120 (0, 0)) ∧ w'.heap[w.heap.size + 1]? = some (.cells (zeros32.map u8v).toArray 120 (0, 0))) := by
    refine (ready_ok (h.ext X)).mono ?_
    rintro e w' ⟨rfl, rfl⟩
    refine ⟨by rw [hf]; rfl, X, by simp, ?_, ?_⟩
    · exact blk_alloc_lt (blk_alloc w _) _
    · have := blk_alloc (w.alloc (.cells zero32 120)) (.cells zero32 120)
      rwa [World.size_alloc] at this
  have e1 : x.hash = (hashOf (x.take 32 x.pos).1, (x.take 32 x.pos).2) := by unfold RdD.hash; rw [if_neg (by simp [hf])]
  rw [e1]
  have HF := Lib.hid hf
  clear h hf X e1 G
  go_enter Tryz.func106, Tryz.ntmps106
  go_wp2_with fail
  refine C.mono ?_
  rintro e w1 ⟨rfl, hX, hsz, hb0, hb1⟩
  have G1 := HG.out.ext hX
  have R1 := HH.out.ext hX
  obtain ⟨fv, a, hb, ha, hp, he, hi⟩ := R1.ex
  have c1 := cell_of_blk hb 1
  have hap := hp HF.out
  subst hap
  have hne0 : w.heap.size ≠ b := fun e => by have := HH.out.lt b HH.out.mem; omega
  have hne1 : w.heap.size + 1 ≠ b := fun e => by have := HH.out.lt b HH.out.mem; omega
  have C2 : Calls Tryz.prog 124 #[.pointer (some ⟨b, 0, none⟩), .int .i64 32, .int .i64 x.pos] w1.drew fun e w' => ∃ v, e = .returned v ∧ (v = .string (str (x.take 32 x.pos).1) ∧ Reader B se w' (plus S w1.heap.size w'.heap.size) b (x.take 32 x.pos).2 ∧ Upd (one b) w1 w' ∧
      w'.heap[w.heap.size]? = some (.cells (zeros32.map u8v).toArray 120 (0, 0)) ∧ w'.heap[w.heap.size + 1]? = some (.cells (zeros32.map u8v).toArray 120 (0, 0))) := by
    have D := (Upd.refl none' w1).drew
    refine (take_ok (G1.ext D) (R1.ext D) 32 (x.pos : Int) (by omega)).mono ?_
    rintro e w' ⟨rfl, h1, h2⟩
    have U : Upd (one b) w1 w' := (Upd.ext D _).trans (h2.mono (fun _ _ h => h))
    exact ⟨_, rfl, rfl, h1, U, U.blk hb0 (fun e => hne0 e), U.blk hb1 (fun e => hne1 e)⟩
  have HX := Lib.hid hX
  have HSZ := Lib.hid hsz
  have HT := Lib.hid (take_len x 32 x.pos)
  have FIN : Hid (∀ w', Reader B se w' (plus S w1.heap.size w'.heap.size) b (x.take 32 x.pos).2 → Upd (one b) w1 w' → ∀ c1 c2, Reader B se ((w'.setRow (w.heap.size + 1) c1).setRow w.heap.size c2) (plus S w.heap.size ((w'.setRow (w.heap.size + 1) c1).setRow w.heap.size c2).heap.size) b (x.take 32 x.pos).2 ∧ Upd (one b) w ((w'.setRow (w.heap.size + 1) c1).setRow w.heap.size c2)) :=
    fun w' r u c1 c2 => hash_fin HG.out.size HH.out hX hsz r u c1 c2
  clear hX hsz hb0 hb1 G1 R1 hb he hi C hp ha
  go_wp2_with fail
  have hlt : (x.take 32 x.pos).1.length ≤ 32 := HT.out.elim (fun h => by omega) (fun h => by rw [h]; exact Nat.zero_le _)
  have HLT := Lib.hid hlt
  have HLZ : Hid ((x.take 32 x.pos).1.length ≤ (zeros32.map u8v).length) := hlt
  clear hlt
  go_region_law (first
    | (refine step_call (P := Tryz.prog) rfl 124 [.tmp 7, .const (.int .i64 32), .tmp 11] #[113, 3, 3] rfl body_take [.pointer (some ⟨b, 0, none⟩), .int .i64 32, .int .i64 x.pos] rfl C2 ?_; rintro v w' ⟨rfl, hR, hU, hb0, hb1⟩)
    | (refine step_copyStr (P := Tryz.prog) rfl (.tmp 6) (.tmp 12) 93 9 5 rfl Tryz.underlying93 u8_size (w.heap.size + 1) 32 32 rfl (x.take 32 x.pos).1 rfl HLT.out (zeros32.map u8v) 120 hb1 HLZ.out ?_))
  rw [over_hash _ HT.out]
  have fin := FIN.out w' hR hU
  have n1 : w.heap.size ≠ w.heap.size + 1 := by omega
  have hA := blk_setRow hb1 (((hashOf (x.take 32 x.pos).1).map u8v).toArray)
  have hB := blk_setRow_ne hb0 n1 (((hashOf (x.take 32 x.pos).1).map u8v).toArray)
  have hL : (hashOf (x.take 32 x.pos).1).length = 32 := hashOf_len _
  clear hR hU hb0 hb1
  generalize hw2 : w'.setRow (w.heap.size + 1) (((hashOf (x.take 32 x.pos).1).map u8v).toArray) = w2 at hA hB ⊢
  have fin2 : ∀ c2, Reader B se (w2.setRow w.heap.size c2) (plus S w.heap.size (w2.setRow w.heap.size c2).heap.size) b (x.take 32 x.pos).2 ∧ Upd (one b) w (w2.setRow w.heap.size c2) := fun c2 => by rw [← hw2]; exact fin _ c2
  clear fin hw2
  have FI := Lib.hid fin2
  generalize hlv : (hashOf (x.take 32 x.pos).1) = lv at hA hL ⊢
  have HL := Lib.hid hL
  have HLV := Lib.hid hlv
  have c34 := fun j (v : Value) (hv : (lv.map u8v)[j]? = some v) => show w2.cell? ⟨w.heap.size + 1, 0 + j, none⟩ = some v by rw [cell_of_blk hA]; simpa using hv
  have HC := Lib.hid c34
  have hZ := blk_setRow hB (lv.map u8v).toArray
  have HBB := Lib.hid hB
  have HSZ34 : Hid ((Tryz.prog.info? 120).map (·.size) = some (lv.map u8v).length) := by rw [List.length_map, hL]; exact hash_size'
  have HFit : Hid (0 + (lv.map u8v).length ≤ (zeros32.map u8v).length) := by show 0 + (lv.map u8v).length ≤ 32; rw [List.length_map, hL]; exact Nat.le_refl _
  have HOne : Hid (∀ u ∈ lv.map u8v, u.oneCell' = true) := by
    show ∀ u ∈ lv.map u8v, u.oneCell' = true
    intro u hu; obtain ⟨q, _, rfl⟩ := List.mem_map.1 hu; rfl
  have hov : over (zeros32.map u8v) 0 (lv.map u8v) = lv.map u8v := over_all _ _ (by rw [List.length_map, List.length_map, hL]; rfl)
  have HOV := Lib.hid hov
  have HZ := Lib.hid hZ
  clear fin2 hlv hL c34 hZ hB hov hA
  go_wp2_with (first
    | (refine wpList_loadAgg rfl 120 _ rfl (w.heap.size + 1) 0 rfl (lv.map u8v) Tryz.underlying120 rfl HSZ34.out HC.out ?_)
    | (refine wpList_storeAgg rfl 120 _ _ rfl w.heap.size 0 rfl (lv.map u8v) rfl HSZ34.out (zeros32.map u8v) 120 HBB.out HFit.out HOne.out ?_))
  rw [HOV.out]
  refine bodyPost_ret (v := .agg (lv.map u8v).toArray) (results_cell_row rfl _ _ w.heap.size 120 (lv.map u8v).toArray (0, 0) _ rfl HZ.out Tryz.underlying120 rfl (by have := HSZ34.out; simpa using this)) rfl ⟨by rw [HLV.out], FI.out _⟩
set_option maxRecDepth 8000 in
set_option maxHeartbeats 1000000 in
theorem hash_no {B b : Nat} {se : Nat → Addr} {w : World} {S : Nat → Prop} {x : RdD} (G : Genv B se w) (h : Reader B se w S b x) (hf : x.f ≠ none) :
    Calls Tryz.prog 106 #[.pointer (some ⟨b, 0, none⟩)] w fun e w' => e = .returned (.agg (x.hash.1.map u8v).toArray) ∧ Reader B se w' (plus S w.heap.size w'.heap.size) b x.hash.2 ∧ Upd (one b) w w' := by
  have HG := Lib.hid G
  have HH := Lib.hid h
  have X := ((Upd.refl none' w).alloc (.cells zero32 120)).alloc (.cells zero32 120)
  have C : Calls Tryz.prog 123 #[.pointer (some ⟨b, 0, none⟩)] ((w.alloc (.cells zero32 120)).alloc (.cells zero32 120)) fun e w' => e = .returned (.bool false) ∧
      (Ext w w' ∧ w.heap.size + 2 = w'.heap.size ∧ w'.heap[w.heap.size]? = some (.cells (zeros32.map u8v).toArray 120 (0, 0)) ∧ w'.heap[w.heap.size + 1]? = some (.cells (zeros32.map u8v).toArray 120 (0, 0))) := by
    refine (ready_ok (h.ext X)).mono ?_
    rintro e w' ⟨rfl, rfl⟩
    refine ⟨by cases q : x.f with
      | none => exact absurd q hf
      | some _ => rfl, X, by simp, ?_, ?_⟩
    · exact blk_alloc_lt (blk_alloc w _) _
    · have := blk_alloc (w.alloc (.cells zero32 120)) (.cells zero32 120)
      rwa [World.size_alloc] at this
  have e1 : x.hash = (zeros32, x) := by unfold RdD.hash; rw [if_pos hf]
  rw [e1]
  have HF := Lib.hid hf
  clear h hf X e1 G
  go_enter Tryz.func106, Tryz.ntmps106
  go_wp2_with fail
  refine C.mono ?_
  rintro e w1 ⟨rfl, hX, hsz, hb0, hb1⟩
  clear C
  have R2 : Reader B se (w1.setRow w.heap.size (zeros32.map u8v).toArray) (plus S w.heap.size (w1.setRow w.heap.size (zeros32.map u8v).toArray).heap.size) b x :=
    ((HH.out.ext hX).upd (T := one w.heap.size) ((Upd.refl _ w1).setRow (.inr (show one _ _ from rfl)) _) (fun g hg e => by have e' : g = w.heap.size := e; have := HH.out.lt g hg; omega)).weaken
      (fun k hk => .inl hk) (fun k hk => ⟨hk.elim (HH.out.low k) (fun hk => by have := HG.out.size; omega), hk.elim (fun hk => by have := HH.out.lt k hk; simp; omega) (fun hk => hk.2)⟩)
  have U2 : Upd (one b) w (w1.setRow w.heap.size (zeros32.map u8v).toArray) := (Upd.ext hX _).setRow (.inl (Nat.le_refl _)) _
  have FI := Lib.hid (And.intro R2 U2)
  have HOV := Lib.hid (show over (zeros32.map u8v) 0 (zeros32.map u8v) = zeros32.map u8v from over_all _ _ rfl)
  have HX := Lib.hid hX
  have c34 := fun j (v : Value) (hv : (zeros32.map u8v)[j]? = some v) => show w1.cell? ⟨w.heap.size + 1, 0 + j, none⟩ = some v by rw [cell_of_blk hb1]; simpa using hv
  have HC := Lib.hid c34
  have HBB := Lib.hid hb0
  have HSZ34 : Hid ((Tryz.prog.info? 120).map (·.size) = some (zeros32.map u8v).length) := hash_size'
  have HFit : Hid (0 + (zeros32.map u8v).length ≤ (zeros32.map u8v).length) := by show 0 + 32 ≤ 32; decide
  have HOne : Hid (∀ u ∈ zeros32.map u8v, u.oneCell' = true) := by
    show ∀ u ∈ zeros32.map u8v, u.oneCell' = true
    intro u hu; obtain ⟨q, _, rfl⟩ := List.mem_map.1 hu; rfl
  have HZ := Lib.hid (blk_setRow hb0 (zeros32.map u8v).toArray)
  have HSZ := Lib.hid hsz
  clear R2 U2 hX c34 hb0 hb1 hsz
  go_wp2_with (first
    | (refine wpList_loadAgg rfl 120 _ rfl (w.heap.size + 1) 0 rfl (zeros32.map u8v) Tryz.underlying120 rfl HSZ34.out HC.out ?_)
    | (refine wpList_storeAgg rfl 120 _ _ rfl w.heap.size 0 rfl (zeros32.map u8v) rfl HSZ34.out (zeros32.map u8v) 120 HBB.out HFit.out HOne.out ?_))
  rw [HOV.out]
  refine bodyPost_ret (v := .agg (zeros32.map u8v).toArray) (results_cell_row rfl _ _ w.heap.size 120 (zeros32.map u8v).toArray (0, 0) _ rfl HZ.out Tryz.underlying120 rfl (by have := HSZ34.out; simpa using this)) rfl ⟨rfl, FI.out⟩
/-- Hash: the next 32 bytes. -/
theorem hash_ok {B b : Nat} {se : Nat → Addr} {w : World} {S : Nat → Prop} {x : RdD} (G : Genv B se w) (h : Reader B se w S b x) :
    Calls Tryz.prog 106 #[.pointer (some ⟨b, 0, none⟩)] w fun e w' => e = .returned (.agg (x.hash.1.map u8v).toArray) ∧ Reader B se w' (plus S w.heap.size w'.heap.size) b x.hash.2 ∧ Upd (one b) w w' := by
  by_cases hf : x.f = none
  · exact hash_yes G h hf
  · exact hash_no G h hf
end Go.Proofs.YtljnhelnmnomoaaGreatDoor
