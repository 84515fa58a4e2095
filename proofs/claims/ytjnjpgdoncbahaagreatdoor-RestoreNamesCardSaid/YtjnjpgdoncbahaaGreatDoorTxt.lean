/- Rows of texts in memory; SameTexts of the same. (For the seats of the store.) A store that is not there, and one that no call made: every function by a contract. PRINTED by wip/tools/gen_stnone.py. Rows of names with texts; reads that rise: plain (for the document's store). -/
import Derived.Test.YtjnjpgdoncbahaaGreatDoorStNames
import Derived.Test.YtjnjpgdoncbahaaGreatDoorStore
namespace Go.Proofs.YtjnjpgdoncbahaaGreatDoor
open Go.RowKit Go.Lib Go.Sort
set_option maxRecDepth 8000
set_option maxHeartbeats 2000000
variable {B b:Nat}{se:Nat→Addr}{w:World}
def strs(l:List (List UInt8)):List ByteArray:=l.map fun b=> ⟨b.toArray⟩
abbrev zeroSt:StD:=⟨[],[],0,0,0,false⟩
def ZeroAt(w:World)(b:Nat):Prop:=w.heap[b]? =some (.cells (stRow (.map none) (.slice none 0 0) zeroSt) 45 (0,0))
theorem ZeroAt.ext{w':World}(h:ZeroAt w b)(u:Ext w w'):ZeroAt w' b:=Ext.blk u h
theorem refused_none(G:Genv B se w)(s:ByteArray):
 Calls Tryz.prog 50 #[.pointer none,.string s] w fun e w'=> e= .returned (sv se 1)∧w=w':=by
 have g1:w.cell? ⟨3,0,none⟩=some (sv se 1):=G.cell 1 (by omega) (by omega);clear G;go_enter Tryz.func50,Tryz.ntmps50;go_wp2_with fail;go_ret;exact ⟨rfl,rfl⟩
theorem get_none(G:Genv B se w)(s:ByteArray):
 Calls Tryz.prog 38 #[.pointer none,.string s] w fun e w'=> e= .returned (.tuple #[.string ⟨#[]⟩,sv se 1])∧Ext w w':=by
 have X:=(Upd.refl none' w).alloc (.cells #[.pointer none] 22);have hx:=blk_alloc w (.cells #[.pointer none] 22);have p0:World.cell? _ ⟨w.heap.size,0,none⟩=some (.pointer none):=cell_of_blk hx 0;have C:=refused_none (G.ext X) s;have HX:=ZA X;clear G X hx;go_enter Tryz.func38,Tryz.ntmps38;go_wp2_with fail;refine C.mono ?_;rintro e w2 ⟨rfl,rfl⟩;go_wp2_with fail;go_ret2;exact ⟨rfl,HX.o⟩
theorem refused_zero(G:Genv B se w)(Z:ZeroAt w b)(s:ByteArray):
 Calls Tryz.prog 50 #[.pointer (some ⟨b,0,none⟩),.string s] w fun e w'=> e= .returned (sv se 1)∧w=w':=by
 have m0:World.cell? w ⟨b,0,none⟩=some (.map none):=cell_of_blk Z 0;have hm0:=map_hasnt;have g1:w.cell? ⟨3,0,none⟩=some (sv se 1):=G.cell 1 (by omega) (by omega);clear G Z;go_enter Tryz.func50,Tryz.ntmps50;go_wp2_with fail;go_ret;exact ⟨rfl,rfl⟩
theorem get_zero(G:Genv B se w)(Z:ZeroAt w b)(s:ByteArray):
 Calls Tryz.prog 38 #[.pointer (some ⟨b,0,none⟩),.string s] w fun e w'=> e= .returned (.tuple #[.string ⟨#[]⟩,sv se 1])∧Ext w w':=by
 have X:=(Upd.refl none' w).alloc (.cells #[.pointer (some ⟨b,0,none⟩)] 22);have hx:=blk_alloc w (.cells #[.pointer (some ⟨b,0,none⟩)] 22);have p0:World.cell? _ ⟨w.heap.size,0,none⟩=some (.pointer (some ⟨b,0,none⟩)):=cell_of_blk hx 0;have C:=refused_zero (G.ext X) (Z.ext X) s;have HX:=ZA X;clear G X hx Z;go_enter Tryz.func38,Tryz.ntmps38;go_wp2_with fail;refine C.mono ?_;rintro e w2 ⟨rfl,rfl⟩;go_wp2_with fail;go_ret2;exact ⟨rfl,HX.o⟩
theorem row_type{e size n:Nat}{v:Value}{xs:List Value}(h:w.ownsRow B e size v n xs){g:Nat}(hg:v.ownBlock=some g):∃c,w.heap[g]? =some (.cells c e (0,0)):=by
 rcases h.2 with ⟨rfl,_⟩ | ⟨g',cap,cur,rfl,_,hb,_⟩
 ·cases hg
 ·obtain rfl:g'=g:=by simpa[Value.ownBlock] using hg
  exact ⟨_,hb⟩
end Go.Proofs.YtjnjpgdoncbahaaGreatDoor
