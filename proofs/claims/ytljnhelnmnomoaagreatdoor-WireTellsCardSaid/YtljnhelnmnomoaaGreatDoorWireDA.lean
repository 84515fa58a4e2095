/- wire.DecodeAnswer by a contract: what it gives, plainly; the bytes that are refused ahead. -/
import Derived.Test.YtljnhelnmnomoaaGreatDoorRdS
import Derived.Test.YtljnhelnmnomoaaGreatDoorTook
import Derived.Test.YtljnhelnmnomoaaGreatDoorWireEA
import Derived.Laws.ResultCell
namespace Go.Proofs.YtljnhelnmnomoaaGreatDoor
open Go.RowKit Go.Lib

def zeroAns : List Value := [.int .u8 0, .int .u64 0, .slice none 0 0, .string ⟨#[]⟩]
abbrev zeroA : AnsD := ⟨0, 0, [], ⟨#[]⟩⟩
theorem ans_size : (Tryz.prog.info? 70).map (·.size) = some 4 := by kernel_rfl
theorem ans_one (a : Int) (b : Int) (v : Value) (s : ByteArray) (hv : v.oneCell' = true) : ∀ u ∈ ([.int .u8 a, .int .u64 b, v, .string s] : List Value), u.oneCell' = true := fun u hu => by
  simp only [List.mem_cons, List.not_mem_nil, or_false] at hu
  rcases hu with rfl | rfl | rfl | rfl
  · rfl
  · rfl
  · exact hv
  · rfl
theorem results_cell_two {P : Program} {fn : Func} {p u : Tmp} {ty : TypeId} (h : fn.results = #[.cell p ty, .tmp u]) (tmps : Array Value) (w : World) (g : Nat) (t : TypeId) (cs : Array Value) (fr : Nat × Nat) (d : TypeDesc)
    (hp : tmps.getD p undef = .pointer (some ⟨g, 0, none⟩)) (hg : w.heap[g]? = some (.cells cs t fr))
    (hu : P.underlying ty = some d) (hd : (match d with | .struct _ | .array _ _ => true | _ => false) = true) (hi : (P.info? ty).map (·.size) = some cs.size) :
    (results fn tmps).run P w = .ok (.tuple #[.agg cs, tmps.getD u undef]) w := by
  have hp' : tmps[p]?.getD undef = .pointer (some ⟨g, 0, none⟩) := by simpa using hp
  simp [results, h, hp', asAddr, run_loadVar_row w g t ty cs fr d hg hu hd hi]
theorem resA (tmps : Array Value) (w : World) (g : Nat) (cs : Array Value) (v : Value) (hp : tmps.getD 2 undef = .pointer (some ⟨g, 0, none⟩)) (hv : tmps.getD 3 undef = v) (hg : w.heap[g]? = some (.cells cs 70 (0, 0))) (hs : cs.size = 4) :
    (results Tryz.f20 tmps).run Tryz.prog w = .ok (.tuple #[.agg cs, v]) w := by
  rw [← hv]
  exact results_cell_two rfl tmps w g 70 cs (0, 0) _ hp hg Tryz.underlying70 rfl (by rw [hs]; exact ans_size)
/-- The hashes that are read, up to a fault. -/
def decHs : Nat → RdD → List (List UInt8) × RdD
  | 0, x => ([], x)
  | n + 1, x => if x.hash.2.f ≠ none then ([], x.hash.2) else (x.hash.1 :: (decHs n x.hash.2).1, (decHs n x.hash.2).2)
def decBody (s : ByteArray) : AnsD × RdD :=
  let x : RdD := ⟨s, 1, none⟩
  let q := decHs x.var.2.var.1 x.var.2.var.2
  (⟨0, x.var.1, q.1, str (q.2.text 65536).1⟩, (q.2.text 65536).2)
/-- What DecodeAnswer gives. -/
def decA (s : ByteArray) : AnsD × EV :=
  if 1048576 < s.size then (zeroA, some (4, none)) else
  match s.data.toList with
  | [] => (zeroA, some (3, some 0))
  | c :: _ => if 5 < c.toNat then (zeroA, some (3, some 0)) else
    let r : AnsD × RdD := if c.toNat = 0 then decBody s else (⟨c.toNat, 0, [], ⟨#[]⟩⟩, ⟨s, 1, none⟩)
    if r.2.fin = none then (r.1, none) else (zeroA, r.2.fin)
def hashCells (ls : List (List UInt8)) : List Value := ls.flatMap (fun h => h.map u8v)
/-- DecAPost, and: the hashes lie in memory of the call's own. -/
def DecAPostO (se : Nat → Addr) (w : World) (r : AnsD × EV) (e : Ending) (w' : World) : Prop :=
  ∃ (ad : Option Addr) (cap : Nat) (v : Value), e = .returned (.tuple #[.agg (ansCells r.1 (.slice ad r.1.hs.length cap)), v]) ∧ HashesAt w' ad r.1.hs ∧ ErrIs se w' v r.2 ∧ Ext w w' ∧ w'.ownsRow w.heap.size 120 32 (.slice ad r.1.hs.length cap) r.1.hs.length (hashCells r.1.hs)
theorem own_nilA {w : World} {B size : Nat} {e : TypeId} : w.ownsRow B e size (.slice none 0 0) 0 [] := ⟨by simp, .inl ⟨rfl, rfl⟩⟩
def DecAPost (se : Nat → Addr) (w : World) (r : AnsD × EV) (e : Ending) (w' : World) : Prop :=
  ∃ (ad : Option Addr) (cap : Nat) (v : Value), e = .returned (.tuple #[.agg (ansCells r.1 (.slice ad r.1.hs.length cap)), v]) ∧ HashesAt w' ad r.1.hs ∧ ErrIs se w' v r.2 ∧ Ext w w'

set_option maxRecDepth 8000 in
/-- Too long. -/
theorem decA_long {B : Nat} {se : Nat → Addr} {w : World} (G : Genv B se w) (s : ByteArray) (hs : 1048576 < s.size) (hs2 : s.size ≤ 9223372036854775807) :
    Calls Tryz.prog 20 #[.string s] w (DecAPostO se w (zeroA, some (4, none))) := by
  have d0 : (1048576 : Int) < s.size := by omega
  have X := (Upd.refl none' w).alloc (.cells zeroAns.toArray 70)
  have hb := blk_alloc w (.cells zeroAns.toArray 70)
  have cg := (G.ext X).cell 4 (by omega) (by omega)
  have cg' : (w.alloc (.cells zeroAns.toArray 70)).cell? ⟨1, 0, none⟩ = some (sv se 4) := cg
  simp only [zeroAns] at cg' hb
  clear G X cg
  go_enter Tryz.func20, Tryz.ntmps20
  go_wp2_with fail
  go_region
  go_wp2_with fail
  have hb2 : ((w.alloc (.cells zeroAns.toArray 70)).drew).heap[w.heap.size]? = some (.cells zeroAns.toArray 70 (0, 0)) := hb
  exact bodyPost_ret (v := .tuple #[.agg zeroAns.toArray, sv se 4]) (resA _ _ w.heap.size zeroAns.toArray _ rfl rfl hb2 rfl) rfl ⟨none, 0, sv se 4, rfl, HashesAt.nil _ _, ⟨by omega, by omega, rfl⟩, by first | exact ((Upd.refl none' w).alloc _).drew | exact (Upd.refl none' w).alloc _, own_nilA⟩
end Go.Proofs.YtljnhelnmnomoaaGreatDoor
