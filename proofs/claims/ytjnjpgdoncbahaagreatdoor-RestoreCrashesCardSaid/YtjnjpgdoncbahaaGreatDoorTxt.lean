/- Rows of texts in memory; SameTexts of the same. (For the seats of the store.) A store that is not there, and one that no call made: every function by a contract. PRINTED by wip/tools/gen_stnone.py. Rows of names with texts; reads that rise: plain (for the document's store). TextsSize, Beyond of one length: whatever they answer. -/
import Derived.Test.YtjnjpgdoncbahaaGreatDoorStNames
import Derived.Test.YtjnjpgdoncbahaaGreatDoorStore
namespace Go.Proofs.YtjnjpgdoncbahaaGreatDoor
open Go.RowKit Go.Lib Go.Sort
set_option maxRecDepth 8000
set_option maxHeartbeats 4000000
variable {a:Option Addr}{l:List ByteArray}{w:World}
def TextsAt(w:World)(a:Option Addr)(l:List ByteArray):Prop:=∀(i:Nat) (s:ByteArray),l[i]? =some s→s.size≤9223372036854775807∧∃b o,a=some ⟨b,o,none⟩∧w.cell? ⟨b,o+i,none⟩=some (.string s)
theorem TextsAt.later{w':World}(h:TextsAt w a l)(u:Ext w w'):TextsAt w' a l:=fun i s hs=> by obtain ⟨h1,b,o,h2,h3⟩:=h i s hs;exact ⟨h1,b,o,h2,Ext.cellv u h3⟩
def strs(l:List (List UInt8)):List ByteArray:=l.map fun b=> ⟨b.toArray⟩
theorem row_type{B e size n:Nat}{v:Value}{xs:List Value}(h:w.ownsRow B e size v n xs){g:Nat}(hg:v.ownBlock=some g):∃c,w.heap[g]? =some (.cells c e (0,0)):=by
 rcases h.2 with ⟨rfl,_⟩ | ⟨g',cap,cur,rfl,_,hb,_⟩
 ·cases hg
 ·obtain rfl:g'=g:=by simpa[Value.ownBlock] using hg
  exact ⟨_,hb⟩
theorem textsSize_g(h:TextsAt w a l)(ca:Nat)(hl:l.length≤9223372036854775807):Calls Tryz.prog 17 #[.slice a l.length ca] w fun e w'=> ∃z,e= .returned (.int .i64 z)∧w=w':=by
 have HH:=ZA h;have HL:=ZA hl;clear h hl;go_enter Tryz.func17,Tryz.ntmps17;go_wp2_with fail;go_loopw [3,4] (fun tv iv wr=> ∃(j:Nat) (z:Int),j≤l.length∧iv= .int .i64 j∧tv= .int .i64 z∧w=wr) (fun _ iv _=> l.length - (RowKit.intOf iv).toNat);case atStart=> exact ⟨0,0,by omega,rfl,rfl,rfl⟩
 case round=>
  obtain ⟨j,z,hj,rfl,rfl,rfl⟩:=hrel;by_cases hlt:j < l.length
  ·have hg:=List.getElem?_eq_getElem hlt;generalize l[j]=s at hg;obtain ⟨h1,b,o,rfl,hc⟩:=HH.o j s hg;have hlti:(j:Int) < l.length:=by omega
   have HW:=ZA (show wrap64 ((j:Int)+1)=((j+1:Nat):Int) by have:=HL.o;unfold wrap64;omega);clear hg h1;by_cases hz:z≤1048576
   ·go_wp2_with fail;have hm4:(RowKit.intOf (.int .i64 (wrap64 ((j:Int)+1)))).toNat=j+1:=by rw[HW.o];simp[RowKit.intOf]
    refine ⟨⟨j+1,_,by omega,by rw[HW.o],rfl,trivial⟩,?_⟩;have hm5:(RowKit.intOf (.int .i64 (j:Int))).toNat=j:=by simp[RowKit.intOf]
    show l.length - (RowKit.intOf (.int .i64 (wrap64 ((j:Int)+1)))).toNat < l.length - (RowKit.intOf (.int .i64 (j:Int))).toNat;rw[hm4,hm5];omega
   ·go_wp2_with fail;go_ret;exact ⟨⟨_,rfl⟩,rfl⟩
  ·have hlti:¬(j:Int) < l.length:=by omega
   go_wp2_with fail;go_ret;exact ⟨⟨_,rfl⟩,rfl⟩
end Go.Proofs.YtjnjpgdoncbahaaGreatDoor
