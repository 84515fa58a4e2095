/- Which texts may be names or lines: plain mathematics on bytes. -/
import Derived.Lib.ValidLaws
namespace Go.Proofs.YtjnjpgdoncbahaaGreatDoor
open Go.Lib
def ctlR(r:Nat):Bool:=decide (r < 32∨(127≤r∧r≤159))
def blankR(r:Nat):Bool:=decide (r=32∨r=133∨r=160∨r=5760∨(8192≤r∧r≤8202)∨r=8232∨r=8233∨r=8239∨r=8287∨r=12288)
def badR(names:Bool)(r:Nat):Bool:=ctlR r || (names && (blankR r || decide (r=43)))
def goodF(names:Bool):Nat→List UInt8→Bool
 | 0,_=> true
 | n+1,l=> if l= [] then true else if badR names (decodeL l).1=true then false else goodF names n (l.drop (decodeL l).2)
def clearF(names:Bool):Nat→List UInt8→Bool
 | 0,_=> true
 | n+1,l=> if l= [] then true else if (decodeL l).1=65533∧(decodeL l).2=1 then false else if badR names (decodeL l).1=true then false else clearF names n (l.drop (decodeL l).2)
def clearB(names:Bool)(l:List UInt8):Bool:=clearF names l.length l
theorem clear_eq(names:Bool):∀(n:Nat) (l:List UInt8),clearF names n l=(validGoD n l && goodF names n l):=by
 intro n;induction n with
 | zero=> intro l;rfl
 | succ n ih=>
  intro l;unfold clearF validGoD goodF;by_cases h0:l= []
  ·simp[h0]
  ·by_cases h1:(decodeL l).1=65533∧(decodeL l).2=1
   ·simp[h0,h1]
   ·by_cases h2:badR names (decodeL l).1=true
    ·simp[h0,h1,h2]
    ·simp[h0,h1,h2,ih]
theorem goodF_fuel(names:Bool):∀(n m:Nat) (l:List UInt8),l.length≤n→l.length≤m→goodF names n l=goodF names m l
 | 0,m,l,hn,_=> by have:l= []:=List.eq_nil_of_length_eq_zero (by omega);subst this;cases m <;> simp[goodF]
 | n+1,0,l,_,hm=> by have:l= []:=List.eq_nil_of_length_eq_zero (by omega);subst this;simp[goodF]
 | n+1,m+1,l,hn,hm=> by
  unfold goodF;by_cases hne:l= []
  ·simp[hne]
  ·have hw:=decodeL_width l;have hl:0 < l.length:=List.length_pos_iff.2 hne;rw[if_neg hne,if_neg hne,goodF_fuel names n m (l.drop (decodeL l).2) (by rw[List.length_drop];omega) (by rw[List.length_drop];omega)]
def goodB(names:Bool)(l:List UInt8):Bool:=goodF names l.length l
theorem goodB_step(names:Bool)(l:List UInt8)(hne:l≠ []):goodB names l=if badR names (decodeL l).1=true then false else goodB names (l.drop (decodeL l).2):=by have hl:0 < l.length:=List.length_pos_iff.2 hne;have hw:=decodeL_width l;obtain ⟨n,hn⟩:∃n,l.length=n+1:=⟨l.length - 1,by omega⟩;unfold goodB;rw[hn];show (if l= [] then true else _)=_;rw[if_neg hne,goodF_fuel names n (l.drop (decodeL l).2).length _ (by rw[List.length_drop];omega) (Nat.le_refl _)]
theorem clear_good(names:Bool)(l:List UInt8):clearB names l=(validD l && goodB names l):=clear_eq names _ _
def nameB(l:List UInt8):Bool:=decide (1≤l.length∧l.length≤64) && clearB true l
end Go.Proofs.YtjnjpgdoncbahaaGreatDoor
