/- Base64: plain mathematics on bytes. -/
import Derived.Laws.BitsAllLaws
namespace Go.Proofs.YtnkcfkjeeennmaaGreatDoor
def lettersL:List UInt8:= [65,66,67,68,69,70,71,72,73,74,75,76,77,78,79,80,81,82,83,84,85,86,87,88,89,90,97,98,99,100,101,102,103,104,105,106,107,108,109,110,111,112,113,114,115,116,117,118,119,120,121,122,48,49,50,51,52,53,54,55,56,57,43,47]
def lt64(k:Nat):UInt8:=lettersL.getD k 0
def n24(a b c:UInt8):Nat:=a.toNat*65536+b.toNat*256+c.toNat
def b64:List UInt8→List UInt8
 | a::b::c::r=> lt64 (n24 a b c / 262144)::lt64 (n24 a b c / 4096 % 64)::lt64 (n24 a b c / 64 % 64)::lt64 (n24 a b c % 64)::b64 r
 | [a,b]=> [lt64 (a.toNat / 4),lt64 (a.toNat % 4*16+b.toNat / 16),lt64 (b.toNat % 16*4),61]
 | [a]=> [lt64 (a.toNat / 4),lt64 (a.toNat % 4*16),61,61]
 | []=> []
theorem b64_len:∀(l:List UInt8),(b64 l).length=(l.length+2) / 3*4
 | a::b::c::r=> by simp only[b64,List.length_cons,b64_len r];omega
 | [a,b]=> by simp[b64]
 | [a]=> by simp[b64]
 | []=> rfl
theorem n24_lt(a b c:UInt8):n24 a b c < 16777216:=by have h1:=a.toNat_lt;have h2:=b.toNat_lt;have h3:=c.toNat_lt;unfold n24;omega
theorem n24_shl(a b c:UInt8):(a.toNat*65536 ||| b.toNat*256) ||| c.toNat=n24 a b c:=by have h1:=a.toNat_lt;have h2:=b.toNat_lt;have h3:=c.toNat_lt;rw[nat_join 16 (a.toNat*65536) (b.toNat*256) (by omega) (by omega),nat_join 8 _ c.toNat (by omega) (by omega)];rfl
theorem and63(n:Nat):n &&& 63=n % 64:=Nat.and_two_pow_sub_one_eq_mod n 6
theorem and15(n:Nat):n &&& 15=n % 16:=Nat.and_two_pow_sub_one_eq_mod n 4
theorem and3(n:Nat):n &&& 3=n % 4:=Nat.and_two_pow_sub_one_eq_mod n 2
end Go.Proofs.YtnkcfkjeeennmaaGreatDoor
