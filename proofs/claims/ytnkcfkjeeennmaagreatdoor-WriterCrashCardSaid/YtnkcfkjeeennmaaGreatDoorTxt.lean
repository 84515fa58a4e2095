/- Rows of texts in memory; SameTexts of the same. (For the seats of the store.) -/
import Derived.Test.YtnkcfkjeeennmaaGreatDoorStNames
namespace Go.Proofs.YtnkcfkjeeennmaaGreatDoor
open Go.RowKit Go.Lib Go.Sort
set_option maxHeartbeats 2000000
variable {a:Option Addr}{l:List ByteArray}{w:World}
def TextsAt(w:World)(a:Option Addr)(l:List ByteArray):Prop:=∀(i:Nat) (s:ByteArray),l[i]? =some s→s.size≤9223372036854775807∧∃b o,a=some ⟨b,o,none⟩∧w.cell? ⟨b,o+i,none⟩=some (.string s)
theorem TextsAt.later{w':World}(h:TextsAt w a l)(u:Ext w w'):TextsAt w' a l:=fun i s hs=> by obtain ⟨h1,b,o,h2,h3⟩:=h i s hs;exact ⟨h1,b,o,h2,Ext.cellv u h3⟩
theorem text_at(h:TextsAt w a l)(k:Nat)(hk:k < l.length):∃g off,a=some ⟨g,off,none⟩∧w.cell? ⟨g,off+k,none⟩=some (.string l[k]):=by obtain ⟨_,b,o,h2,h3⟩:=h k _ (List.getElem?_eq_getElem hk);exact ⟨b,o,h2,h3⟩
def strs(l:List (List UInt8)):List ByteArray:=l.map fun b=> ⟨b.toArray⟩
theorem texts_of_own{B:Nat}{g cap n:Nat}{l:List (List UInt8)}(h:w.ownsRow B 9 1 (.slice (some ⟨g,0,none⟩) n cap) n (l.map encStr))(hl:∀x∈l,x.length≤9223372036854775807):TextsAt w (some ⟨g,0,none⟩) (strs l):=fun i s hs=> by
 unfold strs at hs;rw[List.getElem?_map] at hs;cases hx:l[i]? with
 | none=> rw[hx] at hs;cases hs
 | some x=>
  rw[hx] at hs;obtain rfl:=Option.some.inj hs;refine ⟨hl x (List.mem_of_getElem? hx),g,0,rfl,?_⟩;have:=h.cells (g:=g) rfl i (encStr x) (by rw[List.getElem?_map,hx];rfl);have ea:(⟨g,0,none⟩:Addr).add i=⟨g,0+i,none⟩:=by unfold Addr.add;split <;> simp_all
  rw[ea] at this;exact this
theorem sameTexts_any{b:Option Addr}(h1:TextsAt w a l)(h2:TextsAt w b l)(ca cb:Nat)(hl:l.length≤4611686018427387904):
 Calls Tryz.prog 38 #[.slice a l.length ca,.slice b l.length cb] w fun e w'=> e= .returned (.bool true)∧Ext w w':=by
 have H1:=ZA h1;have H2:=ZA h2;clear h1 h2;go_enter Tryz.func38,Tryz.ntmps38;go_wp2_with fail;go_loopw [5] (fun iv wr=> ∃k:Nat,iv= .int .i64 k∧k≤l.length∧Ext w wr) (fun iv _=> l.length - (RowKit.intOf iv).toNat);case atStart=> exact ⟨0,rfl,Nat.zero_le _,Upd.refl _ _⟩
 case round=>
  obtain ⟨k,rfl,hk,hx⟩:=hrel;have HX:=ZA hx;by_cases hlt:k < l.length
  ·obtain ⟨g1,o1,rfl,c1⟩:=text_at (H1.o.later hx) k hlt;obtain ⟨g2,o2,rfl,c2⟩:=text_at (H2.o.later hx) k hlt;have hki:(k:Int) < l.length:=by omega
   generalize l[k]=t at*;clear hx;go_wp2_with fail;go_quiet (fail);go_wp2_with fail;exact ⟨⟨k+1,by simp,by omega,HX.o.drewN _⟩,by simp[RowKit.intOf];omega⟩
  ·obtain rfl:k=l.length:=by omega
   clear hx;have hki:¬(l.length:Int) < l.length:=by omega
   go_wp2_with fail;go_ret;exact ⟨rfl,HX.o⟩
end Go.Proofs.YtnkcfkjeeennmaaGreatDoor
