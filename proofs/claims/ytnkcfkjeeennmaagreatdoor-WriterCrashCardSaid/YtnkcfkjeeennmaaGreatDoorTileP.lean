/- A tile's name: plain mathematics on bytes. -/
import Derived.Lib.ItoaNum
namespace Go.Proofs.YtnkcfkjeeennmaaGreatDoor
def pad3(l:List UInt8):List UInt8:=List.replicate ((3 - l.length % 3) % 3) 48++l
def grpF:Nat→List UInt8→List UInt8
 | 0,l=> l
 | n+1,l=> if l.length≤3 then l else 120::(l.take 3++47::grpF n (l.drop 3))
def grp(l:List UInt8):List UInt8:=grpF l.length l
theorem grpF_fuel:∀(n m:Nat) (l:List UInt8),l.length≤n→l.length≤m→grpF n l=grpF m l
 | 0,0,_,_,_=> rfl
 | 0,m+1,l,h,_=> by have:l= []:=List.eq_nil_of_length_eq_zero (by omega);subst this;simp[grpF]
 | n+1,0,l,_,h=> by have:l= []:=List.eq_nil_of_length_eq_zero (by omega);subst this;simp[grpF]
 | n+1,m+1,l,h1,h2=> by
  unfold grpF;by_cases h:l.length≤3
  ·rw[if_pos h,if_pos h]
  ·rw[if_neg h,if_neg h,grpF_fuel n m (l.drop 3) (by rw[List.length_drop];omega) (by rw[List.length_drop];omega)]
theorem grp_small(l:List UInt8)(h:l.length≤3):grp l=l:=by
 unfold grp;cases hl:l.length with
 | zero=> rfl
 | succ n=> simp[grpF,h]
theorem grp_step(l:List UInt8)(h:¬l.length≤3):grp l=120::(l.take 3++47::grp (l.drop 3)):=by
 unfold grp;obtain ⟨n,hn⟩:∃n,l.length=n+1:=⟨l.length - 1,by omega⟩;rw[hn];conv=> lhs;unfold grpF
 rw[if_neg h,grpF_fuel n (l.drop 3).length _ (by rw[List.length_drop];omega) (Nat.le_refl _)]
theorem pad3_len(l:List UInt8):(pad3 l).length=(l.length+2) / 3*3:=by unfold pad3;rw[List.length_append,List.length_replicate];omega
def tileB:List UInt8:= [116,105,108,101,47]
def pathB(k i w:Nat):List UInt8:=tileB++Go.Lib.decDigits k++ [47]++grp (pad3 (Go.Lib.decDigits i))++(if w < 256 then [46,112,47]++Go.Lib.decDigits w else [])
end Go.Proofs.YtnkcfkjeeennmaaGreatDoor
