/- Trees of hashes, tile by tile: plain mathematics; nothing of the program. Bytes that are taken block by block: plain mathematics. Base64: plain mathematics on bytes. How a log's edges grow, leaf by leaf and level by level: plain mathematics. A tile's name: plain mathematics on bytes. Base64 of 32 bytes, letter by letter, and the bytes out of it again: plain mathematics. -/
import Derived.Laws.BitsAllLaws
import Derived.Lib.ItoaNum
namespace Go.Proofs.YtjnjpgdoncbahaaGreatDoor
variable {n:Nat}
abbrev HB:=List UInt8
section
variable (N:HB→HB→HB)
def whole:Nat→List HB→HB
 | 0,l=> l.headD []
 | k+1,l=> N (whole k (l.take (2 ^ k))) (whole k (l.drop (2 ^ k)))
def pairs:List HB→List HB
 | a::b::t=> N a b::pairs t
 | _=> []
def pkD:Nat→List HB→List HB
 | 0,_=> []
 | j+1,l=> if 2 ^ j≤l.length then whole N j (l.take (2 ^ j))::pkD j (l.drop (2 ^ j)) else pkD j l
def peaksE:List (List HB)→List HB
 | []=> []
 | e::es=> peaksE es++pkD N 8 e
def cr(l:List HB)(i:Nat)(h:HB):HB:=(l.reverse.take i).foldl (fun h p=> N p h) h
def ones(n:Nat):Nat:=if h:n % 2=1 then ones (n / 2)+1 else 0
termination_by n
decreasing_by omega
def stepE:List (List HB)→HB→List (List HB)
 | [],h=> [[h]]
 | e::es,h=> if e.length=255 then []::stepE es (whole N 8 (e++ [h])) else (e++ [h])::es
def cE:Nat→List (List HB)→HB→HB
 | 0,_,h=> h
 | _+1,[],h=> h
 | k+1,e::es,h=> cE k es (whole N 8 (e++ [h]))
def lead:List (List HB)→Nat
 | []=> 0
 | e::es=> if e.length=255 then lead es+1 else 0
def fitsP:Nat→List (List HB)→Prop
 | n,[]=> n=0
 | n,e::es=> n≠0∧e.length=n % 256∧fitsP (n / 256) es
theorem pairs_take(l:List HB):∀m,pairs N (l.take (2*m))=(pairs N l).take m:=by
 intro m;induction m generalizing l with
 | zero=> simp[pairs]
 | succ m ih=>
  match l with
  | []=> simp[pairs]
  | [a]=> rw[show 2*(m+1)=2*m+1+1 by omega];simp[pairs]
  | a::b::t=>
   rw[show 2*(m+1)=2*m+1+1 by omega,List.take_succ_cons,List.take_succ_cons];simp only[pairs,List.take_succ_cons];rw[ih]
theorem pairs_drop(l:List HB):∀m,pairs N (l.drop (2*m))=(pairs N l).drop m:=by
 intro m;induction m generalizing l with
 | zero=> simp
 | succ m ih=>
  match l with
  | []=> simp[pairs]
  | [a]=> rw[show 2*(m+1)=2*m+1+1 by omega];simp[pairs]
  | a::b::t=>
   rw[show 2*(m+1)=2*m+1+1 by omega,List.drop_succ_cons,List.drop_succ_cons];simp only[pairs,List.drop_succ_cons];rw[ih]
theorem pairs_len(l:List HB):(pairs N l).length=l.length / 2:=by
 match l with
 | []=> simp[pairs]
 | [a]=> simp[pairs]
 | a::b::t=>
  simp only[pairs,List.length_cons];rw[pairs_len t];omega
theorem pairs_get(l:List HB)(i:Nat)(h:2*i+1 < l.length):(pairs N l)[i]? =some (N (l.getD (2*i) []) (l.getD (2*i+1) [])):=by
 induction i generalizing l with
 | zero=>
  match l with
  | []=> simp at h
  | [a]=> simp at h
  | a::b::t=> simp[pairs]
 | succ i ih=>
  match l with
  | []=> simp at h
  | [a]=> simp at h
  | a::b::t=>
   simp only[pairs,List.getElem?_cons_succ];rw[ih t (by simp at h;omega),show 2*(i+1)=2*i+1+1 by omega];simp
theorem whole_pairs:∀(k:Nat) (l:List HB),l.length=2 ^ (k+1)→whole N (k+1) l=whole N k (pairs N l):=by
 intro k;induction k with
 | zero=>
  intro l h;match l with
  | []=> simp at h
  | [a]=> simp at h
  | [a,b]=> simp[whole,pairs]
  | a::b::c::t=> simp at h
 | succ k ih=>
  intro l h;have e2:2 ^ (k+1)=2*2 ^ k:=by rw[Nat.pow_succ];omega
  have e3:2 ^ (k+1+1)=2*2 ^ (k+1):=by rw[Nat.pow_succ];omega
  have h1:(l.take (2 ^ (k+1))).length=2 ^ (k+1):=by rw[List.length_take];omega
  have h2:(l.drop (2 ^ (k+1))).length=2 ^ (k+1):=by rw[List.length_drop];omega
  show N (whole N (k+1) (l.take (2 ^ (k+1)))) (whole N (k+1) (l.drop (2 ^ (k+1))))=N (whole N k ((pairs N l).take (2 ^ k))) (whole N k ((pairs N l).drop (2 ^ k)));rw[ih _ h1,ih _ h2,e2,pairs_take,pairs_drop]
theorem ones_odd(h:n % 2=1):ones n=ones (n / 2)+1:=by rw[ones,dif_pos h]
theorem ones_even(h:n % 2≠1):ones n=0:=by rw[ones,dif_neg h]
theorem ones_low:∀(j m q:Nat),m+1 < 2 ^ j→ones (m+2 ^ j*q)=ones m:=by
 intro j;induction j with
 | zero=> intro m q h;simp at h
 | succ j ih=>
  intro m q h;have e:2 ^ (j+1)*q=2*(2 ^ j*q):=by rw[Nat.pow_succ,Nat.mul_comm (2 ^ j) 2,Nat.mul_assoc]
  have e1:2 ^ (j+1)=2*2 ^ j:=by rw[Nat.pow_succ];omega
  rw[e];generalize hr:2 ^ j*q=r;by_cases ho:m % 2=1
  ·rw[ones_odd ho,ones_odd (by omega),show (m+2*r) / 2=m / 2+r by omega,←hr,ih (m / 2) q (by omega)]
  ·rw[ones_even ho,ones_even (by omega)]
theorem ones_full:∀(j q:Nat),ones (2 ^ j - 1+2 ^ j*q)=j+ones q:=by
 intro j;induction j with
 | zero=> intro q;simp
 | succ j ih=>
  intro q;have e:2 ^ (j+1)*q=2*(2 ^ j*q):=by rw[Nat.pow_succ,Nat.mul_comm (2 ^ j) 2,Nat.mul_assoc]
  have e1:2 ^ (j+1)=2*2 ^ j:=by rw[Nat.pow_succ];omega
  have hp:0 < 2 ^ j:=Nat.two_pow_pos j;rw[e];have e2:(2 ^ (j+1) - 1+2*(2 ^ j*q)) / 2=2 ^ j - 1+2 ^ j*q:=by omega
  rw[ones_odd (by omega),e2,ih q];omega
theorem ones_lt:∀(j m:Nat),m+1 < 2 ^ j→ones m < j:=by
 intro j;induction j with
 | zero=> intro m h;simp at h
 | succ j ih=>
  intro m h;have e1:2 ^ (j+1)=2*2 ^ j:=by rw[Nat.pow_succ];omega
  by_cases ho:m % 2=1
  ·rw[ones_odd ho];have:=ih (m / 2) (by omega);omega
  ·rw[ones_even ho];omega
theorem cr_zero(l:List HB)(h:HB):cr N l 0 h=h:=by simp[cr]
theorem cr_cons(a:HB)(l:List HB)(i:Nat)(h:HB)(hi:i≤l.length):cr N (a::l) i h=cr N l i h:=by unfold cr;rw[List.reverse_cons,List.take_append_of_le_length (by simpa using hi)]
theorem cr_cons_all(a:HB)(l:List HB)(h:HB):cr N (a::l) (l.length+1) h=N a (cr N l l.length h):=by unfold cr;rw[List.take_of_length_le (by simp),List.take_of_length_le (by simp),List.reverse_cons,List.foldl_append];rfl
theorem cr_append(l p:List HB)(i:Nat)(h:HB):cr N (l++p) (p.length+i) h=cr N l i (cr N p p.length h):=by unfold cr;rw[List.reverse_append,List.take_of_length_le (l:=p.reverse) (by simp),List.take_append,List.take_of_length_le (l:=p.reverse) (by simp),List.foldl_append];congr 2;simp
theorem cr_tail(l p:List HB)(i:Nat)(h:HB)(hi:i≤p.length):cr N (l++p) i h=cr N p i h:=by unfold cr;rw[List.reverse_append,List.take_append_of_le_length (by simpa using hi)]
theorem cr_succ(l:List HB)(i:Nat)(h:HB)(hi:i < l.length):cr N l (i+1) h=N (l.getD (l.length - 1 - i) []) (cr N l i h):=by
 unfold cr;have hr:i < l.reverse.length:=by simpa using hi
 rw[List.take_succ_eq_append_getElem hr,List.foldl_append,List.getElem_reverse];simp[List.getD_eq_getElem?_getD,List.getElem?_eq_getElem (show l.length - 1 - i < l.length by omega)]
theorem pk_full:∀(j:Nat) (e:List HB) (h:HB),e.length+1=2 ^ j→(pkD N j e).length=j∧cr N (pkD N j e) j h=whole N j (e++ [h]):=by
 intro j;induction j with
 | zero=>
  intro e h he;have:e= []:=List.length_eq_zero_iff.1 (by simpa using he);subst this;simp[pkD,cr,whole]
 | succ j ih=>
  intro e h he;have e1:2 ^ (j+1)=2*2 ^ j:=by rw[Nat.pow_succ];omega
  have hp:0 < 2 ^ j:=Nat.two_pow_pos j;have hl:2 ^ j≤e.length:=by omega
  obtain ⟨h1,h2⟩:=ih (e.drop (2 ^ j)) h (by rw[List.length_drop];omega);rw[pkD,if_pos hl];refine ⟨by rw[List.length_cons,h1],?_⟩;have:=cr_cons_all N (whole N j (e.take (2 ^ j))) (pkD N j (e.drop (2 ^ j))) h;rw[h1] at this;rw[this,h2,whole,List.take_append_of_le_length hl,List.drop_append_of_le_length hl]
theorem pk_step:∀(j:Nat) (e:List HB) (h:HB),e.length+1 < 2 ^ j→
 ones e.length≤(pkD N j e).length∧pkD N j (e++ [h])=(pkD N j e).take ((pkD N j e).length - ones e.length)++ [cr N (pkD N j e) (ones e.length) h]:=by
 intro j;induction j with
 | zero=> intro e h he;simp at he
 | succ j ih=>
  intro e h he;have e1:2 ^ (j+1)=2*2 ^ j:=by rw[Nat.pow_succ];omega
  have hp:0 < 2 ^ j:=Nat.two_pow_pos j;by_cases hl:2 ^ j≤e.length
  ·have hd:(e.drop (2 ^ j)).length=e.length - 2 ^ j:=List.length_drop;obtain ⟨h1,h2⟩:=ih (e.drop (2 ^ j)) h (by omega);have ho:ones e.length=ones (e.drop (2 ^ j)).length:=by have:=ones_low j (e.drop (2 ^ j)).length 1 (by omega);rw[hd] at this⊢;rw[←this];congr 1;omega
   have hl2:2 ^ j≤(e++ [h]).length:=by simp;omega
   rw[pkD,if_pos hl,pkD,if_pos hl2,List.take_append_of_le_length hl,List.drop_append_of_le_length hl,h2,ho];refine ⟨by rw[List.length_cons];omega,?_⟩;rw[cr_cons _ _ _ _ _ h1,List.length_cons,show (pkD N j (e.drop (2 ^ j))).length+1 - ones (e.drop (2 ^ j)).length=((pkD N j (e.drop (2 ^ j))).length - ones (e.drop (2 ^ j)).length)+1 by omega,List.take_succ_cons];rfl
  ·have hx:pkD N (j+1) e=pkD N j e:=by rw[pkD,if_neg hl]
   rw[hx];by_cases hf:e.length+1=2 ^ j
   ·obtain ⟨h1,h2⟩:=pk_full N j e h hf;have ho:ones e.length=j:=by have:=ones_full j 0;rw[show e.length=2 ^ j - 1+2 ^ j*0 by omega,this,ones_even (by omega)];rfl
    have hl2:2 ^ j≤(e++ [h]).length:=by simp;omega
    rw[ho,h1,Nat.sub_self,h2,pkD,if_pos hl2,List.take_of_length_le (by simp;omega),List.drop_of_length_le (by simp;omega)];have h0:∀i,pkD N i []= []:=fun i=> by
     induction i with
     | zero=> rfl
     | succ i ih2=> rw[pkD,if_neg (by have:=Nat.two_pow_pos i;rw[List.length_nil];omega),ih2]
    rw[h0];exact ⟨Nat.le_refl _,rfl⟩
   ·have hl2:¬2 ^ j≤(e++ [h]).length:=by simp;omega
    obtain ⟨h1,h2⟩:=ih e h (by omega);rw[pkD,if_neg hl2];exact ⟨h1,h2⟩
theorem pk_nil:∀i,pkD N i []= []:=fun i=> by
 induction i with
 | zero=> rfl
 | succ i ih=> rw[pkD,if_neg (by have:=Nat.two_pow_pos i;rw[List.length_nil];omega),ih]
theorem step_main:∀(es:List (List HB)) (n:Nat) (h:HB),fitsP n es→
 ones n≤(peaksE N es).length∧peaksE N (stepE N es h)=(peaksE N es).take ((peaksE N es).length - ones n)++ [cr N (peaksE N es) (ones n) h]∧fitsP (n+1) (stepE N es h)∧lead es=ones n / 8∧∀k,k≤lead es→cr N (peaksE N es) (8*k) h=cE N k es h:=by
 intro es;induction es with
 | nil=>
  intro n h hf;have hn:n=0:=hf;subst hn;have h1:pkD N 8 [h]= [h]:=by simp[pkD,whole]
  refine ⟨by rw[ones_even (by omega)];simp,?_,?_,?_,?_⟩
  ·simp[stepE,peaksE,h1,ones_even,cr]
  ·simp[stepE,fitsP]
  ·simp[lead,ones_even]
  ·intro k hk;have:k=0:=by simpa[lead] using hk
   subst this;simp[cr,cE]
 | cons e es ih=>
  intro n h hf;obtain ⟨hn,he,hf2⟩:=hf;by_cases h255:e.length=255
  ·obtain ⟨p1,p2⟩:=pk_full N 8 e h (by rw[h255]);obtain ⟨i1,i2,i3,i4,i5⟩:=ih (n / 256) (whole N 8 (e++ [h])) hf2;have ho:ones n=8+ones (n / 256):=by have:=ones_full 8 (n / 256);rw[←this];congr 1;have:(2:Nat) ^ 8=256:=rfl;omega
   have hl:(peaksE N (e::es)).length=(peaksE N es).length+8:=by simp[peaksE,p1]
   refine ⟨by rw[hl,ho];omega,?_,?_,?_,?_⟩
   ·rw[stepE,if_pos h255,hl,ho];show peaksE N (stepE N es _)++pkD N 8 []=_;have hc:=cr_append N (peaksE N es) (pkD N 8 e) (ones (n / 256)) h;rw[p1,p2] at hc;show _=List.take _ (peaksE N es++pkD N 8 e)++ [cr N (peaksE N es++pkD N 8 e) _ h];rw[pk_nil,List.append_nil,i2,hc,List.take_append_of_le_length (by omega),show (peaksE N es).length+8 - (8+ones (n / 256))=(peaksE N es).length - ones (n / 256) by omega]
   ·rw[stepE,if_pos h255];refine ⟨by omega,by simp;omega,?_⟩;rw[show (n+1) / 256=n / 256+1 by omega];exact i3
   ·rw[lead,if_pos h255,i4,ho];omega
   ·intro k hk;rw[lead,if_pos h255] at hk;cases k with
    | zero=> simp[cr,cE]
    | succ k=>
     have hc:=cr_append N (peaksE N es) (pkD N 8 e) (8*k) h;rw[p1,p2] at hc;rw[show 8*(k+1)=8+8*k by omega];show cr N (peaksE N es++pkD N 8 e) _ h=_;rw[hc,i5 k (by omega)];rfl
  ·have hlt:e.length+1 < 2 ^ 8:=by have:(2:Nat) ^ 8=256:=rfl;omega
   obtain ⟨p1,p2⟩:=pk_step N 8 e h hlt;have ho:ones n=ones e.length:=by have:=ones_low 8 e.length (n / 256) hlt;rw[←this];congr 1;have:(2:Nat) ^ 8=256:=rfl;omega
   have h8:=ones_lt 8 e.length hlt;refine ⟨by rw[ho];simp[peaksE];omega,?_,?_,?_,?_⟩
   ·rw[stepE,if_neg h255,ho];show peaksE N es++pkD N 8 (e++ [h])=List.take _ (peaksE N es++pkD N 8 e)++ [cr N (peaksE N es++pkD N 8 e) _ h];rw[p2,cr_tail _ _ _ _ _ p1,←List.append_assoc];congr 1;have hl:(peaksE N (e::es)).length=(peaksE N es).length+(pkD N 8 e).length:=by simp[peaksE]
    rw[hl,List.take_append,List.take_of_length_le (l:=peaksE N es) (by omega)];congr 2;omega
   ·rw[stepE,if_neg h255];refine ⟨by omega,by simp;omega,?_⟩;rw[show (n+1) / 256=n / 256 by omega];exact hf2
   ·rw[lead,if_neg h255,ho];omega
   ·intro k hk;rw[lead,if_neg h255] at hk;have:k=0:=by omega
    subst this;simp[cr,cE]
theorem stepE_eq:∀(es:List (List HB)) (h:HB),stepE N es h=List.replicate (lead es) []++(es.getD (lead es) []++ [cE N (lead es) es h])::es.drop (lead es+1):=by
 intro es;induction es with
 | nil=> intro h;simp[stepE,lead,cE]
 | cons e es ih=>
  intro h;by_cases h255:e.length=255
  ·rw[stepE,if_pos h255,ih,lead,if_pos h255,List.replicate_succ];simp[cE]
  ·rw[stepE,if_neg h255,lead,if_neg h255];simp[cE]
end
section
variable (F:List Int→List UInt8→List Int)
def absorb(h:List Int)(bs:List UInt8):List Int:=if 64≤bs.length then absorb (F h (bs.take 64)) (bs.drop 64) else h
termination_by bs.length
decreasing_by rw[List.length_drop];omega
def restB(bs:List UInt8):List UInt8:=bs.drop (64*(bs.length / 64))
theorem absorb_ge{h:List Int}{bs:List UInt8}(hl:64≤bs.length):absorb F h bs=absorb F (F h (bs.take 64)) (bs.drop 64):=by rw[absorb,if_pos hl]
theorem absorb_lt{h:List Int}{bs:List UInt8}(hl:bs.length < 64):absorb F h bs=h:=by rw[absorb,if_neg (by omega)]
theorem absorb_app:∀(m:Nat) (h:List Int) (a b:List UInt8),a.length=64*m→absorb F h (a++b)=absorb F (absorb F h a) b:=by
 intro m;induction m with
 | zero=>
  intro h a b ha;have:a= []:=List.length_eq_zero_iff.1 (by omega);subst this;rw[List.nil_append,absorb_lt F (bs:= []) (by simp)]
 | succ m ih=>
  intro h a b ha;rw[absorb_ge F (bs:=a++b) (by simp;omega),absorb_ge F (bs:=a) (by omega),List.take_append_of_le_length (by omega),List.drop_append_of_le_length (by omega)];exact ih _ _ _ (by rw[List.length_drop];omega)
theorem restB_small{bs:List UInt8}(h:bs.length < 64):restB bs=bs:=by unfold restB;rw[Nat.div_eq_of_lt h];simp
theorem restB_ge{bs:List UInt8}(h:64≤bs.length):restB bs=restB (bs.drop 64):=by unfold restB;rw[List.drop_drop,List.length_drop];congr 1;omega
theorem restB_len(bs:List UInt8):(restB bs).length=bs.length % 64:=by unfold restB;rw[List.length_drop];omega
theorem absorb_rest(h:List Int)(bs x:List UInt8):absorb F h (bs++x)=absorb F (absorb F h bs) (restB bs++x):=by
 have e:bs=bs.take (64*(bs.length / 64))++restB bs:=by unfold restB;rw[List.take_append_drop]
 have hl:(bs.take (64*(bs.length / 64))).length=64*(bs.length / 64):=by rw[List.length_take];omega
 have h1:absorb F h bs=absorb F h (bs.take (64*(bs.length / 64))):=by
  conv=> lhs;rw[e]
  rw[absorb_app F _ _ _ _ hl,absorb_lt F (by rw[restB_len];omega)]
 conv=> lhs;rw[e,List.append_assoc]
 rw[absorb_app F _ _ _ _ hl,h1]
theorem restB_rest(bs x:List UInt8):restB (bs++x)=restB (restB bs++x):=by
 have e:bs=bs.take (64*(bs.length / 64))++restB bs:=by unfold restB;rw[List.take_append_drop]
 have hl:(bs.take (64*(bs.length / 64))).length=64*(bs.length / 64):=by rw[List.length_take];omega
 have hg:∀(m:Nat) (a b:List UInt8),a.length=64*m→restB (a++b)=restB b:=by
  intro m;induction m with
  | zero=>
   intro a b ha;have:a= []:=List.length_eq_zero_iff.1 (by omega);subst this;rfl
  | succ m ih=>
   intro a b ha;rw[restB_ge (by simp;omega),List.drop_append_of_le_length (by omega)];exact ih _ _ (by rw[List.length_drop];omega)
 conv=> lhs;rw[e,List.append_assoc]
 exact hg _ _ _ hl
end
def lettersL:List UInt8:= [65,66,67,68,69,70,71,72,73,74,75,76,77,78,79,80,81,82,83,84,85,86,87,88,89,90,97,98,99,100,101,102,103,104,105,106,107,108,109,110,111,112,113,114,115,116,117,118,119,120,121,122,48,49,50,51,52,53,54,55,56,57,43,47]
def lt64(k:Nat):UInt8:=lettersL.getD k 0
def n24(a b c:UInt8):Nat:=a.toNat*65536+b.toNat*256+c.toNat
def b64:List UInt8→List UInt8
 | a::b::c::r=> lt64 (n24 a b c / 262144)::lt64 (n24 a b c / 4096 % 64)::lt64 (n24 a b c / 64 % 64)::lt64 (n24 a b c % 64)::b64 r
 | [a,b]=> [lt64 (a.toNat / 4),lt64 (a.toNat % 4*16+b.toNat / 16),lt64 (b.toNat % 16*4),61]
 | [a]=> [lt64 (a.toNat / 4),lt64 (a.toNat % 4*16),61,61]
 | []=> []
theorem b64_len:∀(l:List UInt8),(b64 l).length=(l.length+2) / 3*4
 | a::b::c::r=> by simp only[b64,List.length_cons,b64_len r];omega
 | [a,b]=> by simp[b64]
 | [a]=> by simp[b64]
 | []=> rfl
theorem b64_step(l:List UInt8)(h:3≤l.length):b64 l=lt64 (n24 (l.getD 0 0) (l.getD 1 0) (l.getD 2 0) / 262144)::lt64 (n24 (l.getD 0 0) (l.getD 1 0) (l.getD 2 0) / 4096 % 64)::lt64 (n24 (l.getD 0 0) (l.getD 1 0) (l.getD 2 0) / 64 % 64)::lt64 (n24 (l.getD 0 0) (l.getD 1 0) (l.getD 2 0) % 64)::b64 (l.drop 3):=by
 match l,h with
 | a::b::c::r,_=> rfl
theorem n24_lt(a b c:UInt8):n24 a b c < 16777216:=by have h1:=a.toNat_lt;have h2:=b.toNat_lt;have h3:=c.toNat_lt;unfold n24;omega
theorem n24_shl(a b c:UInt8):(a.toNat*65536 ||| b.toNat*256) ||| c.toNat=n24 a b c:=by have h1:=a.toNat_lt;have h2:=b.toNat_lt;have h3:=c.toNat_lt;rw[nat_join 16 (a.toNat*65536) (b.toNat*256) (by omega) (by omega),nat_join 8 _ c.toNat (by omega) (by omega)];rfl
theorem and63(n:Nat):n &&& 63=n % 64:=Nat.and_two_pow_sub_one_eq_mod n 6
theorem and15(n:Nat):n &&& 15=n % 16:=Nat.and_two_pow_sub_one_eq_mod n 4
theorem and3(n:Nat):n &&& 3=n % 4:=Nat.and_two_pow_sub_one_eq_mod n 2
section
variable (N:HB→HB→HB)
def restL(l:List HB):List HB:=l.drop (256*(l.length / 256))
def chunk(l:List HB)(j:Nat):List HB:=(l.drop (256*j)).take 256
def chunksL(l:List HB):List (List HB):=(List.range (l.length / 256)).map (chunk l)
def more(es:List (List HB))(L:List HB):Nat→List HB
 | 0=> L
 | k+1=> (chunksL (es.getD k []++more es L k)).map (whole N 8)
def rowG(es:List (List HB))(L:List HB)(k:Nat):List HB:=es.getD k []++more N es L k
theorem restL_len(l:List HB):(restL l).length=l.length % 256:=by unfold restL;rw[List.length_drop];omega
theorem restL_small{l:List HB}(h:l.length < 256):restL l=l:=by unfold restL;rw[Nat.div_eq_of_lt h];simp
theorem chunksL_small{l:List HB}(h:l.length < 256):chunksL l= []:=by unfold chunksL;rw[Nat.div_eq_of_lt h];simp
theorem chunksL_len(l:List HB):(chunksL l).length=l.length / 256:=by simp[chunksL]
theorem chunk_app(l:List HB)(x:HB)(j:Nat)(h:j < l.length / 256):chunk (l++ [x]) j=chunk l j:=by
 unfold chunk;have h1:256*j+256≤l.length:=by omega
 rw[List.drop_append_of_le_length (by omega),List.take_append_of_le_length (by rw[List.length_drop];omega)]
theorem restL_app(l:List HB)(x:HB)(h:(restL l).length≠255):restL (l++ [x])=restL l++ [x]∧chunksL (l++ [x])=chunksL l:=by
 rw[restL_len] at h;have hd:(l++ [x]).length / 256=l.length / 256:=by simp;omega
 constructor
 ·unfold restL;rw[hd,List.drop_append_of_le_length (by omega)]
 ·unfold chunksL;rw[hd];exact List.map_congr_left (fun j hj=> chunk_app l x j (by simpa using hj))
theorem restL_full(l:List HB)(x:HB)(h:(restL l).length=255):restL (l++ [x])= []∧chunksL (l++ [x])=chunksL l++ [restL l++ [x]]:=by
 have h0:=h;rw[restL_len] at h;have hd:(l++ [x]).length / 256=l.length / 256+1:=by simp;omega
 constructor
 ·unfold restL;rw[hd,List.drop_of_length_le (by simp;omega)]
 ·unfold chunksL;rw[hd,List.range_succ,List.map_append];congr 1
  ·exact List.map_congr_left (fun j hj=> chunk_app l x j (by simpa using hj))
  ·simp only[List.map_cons,List.map_nil,List.cons.injEq,and_true];unfold chunk;have e:List.drop (256*(l.length / 256)) l=restL l:=rfl;rw[List.drop_append_of_le_length (by omega),e,List.take_of_length_le (by simp[h0])]
theorem lead_le:∀(es:List (List HB)),lead es≤es.length:=by
 intro es;induction es with
 | nil=> simp[lead]
 | cons e es ih=> rw[lead];split <;> simp <;> omega
theorem lead_full:∀(es:List (List HB)) (k:Nat),k < lead es→(es.getD k []).length=255:=by
 intro es;induction es with
 | nil=> intro k h;simp[lead] at h
 | cons e es ih=>
  intro k h;rw[lead] at h;split at h
  ·cases k with
   | zero=> simpa
   | succ k=> simpa using ih k (by omega)
  ·omega
theorem lead_not:∀(es:List (List HB)),(es.getD (lead es) []).length≠255:=by
 intro es;induction es with
 | nil=> simp[lead]
 | cons e es ih=>
  rw[lead];split
  ·simpa using ih
  ·simpa
theorem cE_succ:∀(k:Nat) (es:List (List HB)) (h:HB),k < es.length→cE N (k+1) es h=whole N 8 (es.getD k []++ [cE N k es h]):=by
 intro k;induction k with
 | zero=>
  intro es h hk;cases es with
  | nil=> simp at hk
  | cons e es=> simp[cE]
 | succ k ih=>
  intro es h hk;cases es with
  | nil=> simp at hk
  | cons e es=>
   show cE N (k+1) es _=_;rw[ih es _ (by simpa using hk)];simp[cE]
theorem stepE_get(es:List (List HB))(h:HB)(k:Nat):(stepE N es h).getD k []=if k < lead es then [] else if k=lead es then es.getD k []++ [cE N k es h] else es.getD k []:=by
 rw[stepE_eq];by_cases h1:k < lead es
 ·rw[if_pos h1];simp[List.getD_eq_getElem?_getD,List.getElem?_append,h1]
 ·rw[if_neg h1];by_cases h2:k=lead es
  ·subst h2;simp[List.getD_eq_getElem?_getD]
  ·rw[if_neg h2];obtain ⟨m,rfl⟩:∃m,k=lead es+1+m:=⟨k - lead es - 1,by omega⟩;simp only[List.getD_eq_getElem?_getD,List.getElem?_append,List.length_replicate];rw[if_neg (by omega),show lead es+1+m - lead es=m+1 by omega,List.getElem?_cons_succ,List.getElem?_drop]
theorem grow_main(es:List (List HB))(he:∀k,(es.getD k []).length < 256):∀(m:Nat) (L:List HB),L.length=m→
 (∀k,(L.foldl (stepE N) es).getD k []=restL (rowG N es L k))∧
 ∀h k,more N es (L++ [h]) k=more N es L k++(if k≤lead (L.foldl (stepE N) es) then [cE N k (L.foldl (stepE N) es) h] else []):=by
 have second:∀(L:List HB),(∀k,(L.foldl (stepE N) es).getD k []=restL (rowG N es L k))→∀h k,more N es (L++ [h]) k=more N es L k++(if k≤lead (L.foldl (stepE N) es) then [cE N k (L.foldl (stepE N) es) h] else []):=by
  intro L hL h k;generalize hE:L.foldl (stepE N) es=E at hL⊢;induction k with
  | zero=> simp[more,cE]
  | succ k ih=>
   have hr:=hL k;rw[rowG] at hr;show (chunksL (es.getD k []++more N es (L++ [h]) k)).map (whole N 8)=(chunksL (es.getD k []++more N es L k)).map (whole N 8)++_;rw[ih];by_cases h1:k≤lead E
   ·rw[if_pos h1,←List.append_assoc];by_cases h2:k < lead E
    ·have hf:=lead_full E k h2;rw[hr] at hf;rw[(restL_full _ _ hf).2,if_pos (by omega),List.map_append];have hc:=cE_succ N k E h (by have:=lead_le E;omega);rw[hc,hr];rfl
    ·have h3:k=lead E:=by omega
     have hf:(E.getD k []).length≠255:=by rw[h3];exact lead_not E
     rw[hr] at hf;rw[(restL_app _ _ hf).2,if_neg (by omega),List.append_nil]
   ·rw[if_neg h1,List.append_nil,if_neg (by omega),List.append_nil]
 intro m;induction m with
 | zero=>
  intro L hL;have:L= []:=List.length_eq_zero_iff.1 hL;subst this;have h0:∀k,more N es [] k= []:=by
   intro k;induction k with
   | zero=> rfl
   | succ k ih=> rw[more,ih,List.append_nil,chunksL_small (he k)];rfl
  have h1:∀k,(([]:List HB).foldl (stepE N) es).getD k []=restL (rowG N es [] k):=fun k=> by rw[rowG,h0,List.append_nil,restL_small (he k)];rfl
  exact ⟨h1,second [] h1⟩
 | succ m ih=>
  intro L hL;obtain ⟨L0,x,rfl⟩:∃L0 x,L=L0++ [x]:=by
   rcases List.eq_nil_or_concat L with h | ⟨a,b,h⟩
   ·subst h;simp at hL
   ·exact ⟨a,b,by simpa using h⟩
  obtain ⟨i1,i2⟩:=ih L0 (by simpa using hL);have h1:∀k,((L0++ [x]).foldl (stepE N) es).getD k []=restL (rowG N es (L0++ [x]) k):=fun k=> by
   rw[List.foldl_append,List.foldl_cons,List.foldl_nil,stepE_get,rowG,i2];have hr:=i1 k;rw[rowG] at hr;by_cases a1:k≤lead (L0.foldl (stepE N) es)
   ·rw[if_pos a1,←List.append_assoc];by_cases a2:k < lead (L0.foldl (stepE N) es)
    ·rw[if_pos a2];have hf:=lead_full _ k a2;rw[hr] at hf;rw[(restL_full _ _ hf).1]
    ·have a3:k=lead (L0.foldl (stepE N) es):=by omega
     rw[if_neg a2,if_pos a3];have hf:((L0.foldl (stepE N) es).getD k []).length≠255:=by rw[a3];exact lead_not _
     rw[hr] at hf;rw[(restL_app _ _ hf).1,hr]
   ·rw[if_neg (by omega),if_neg (by omega),if_neg a1,List.append_nil,hr]
  exact ⟨h1,second _ h1⟩
theorem fits_get:∀(es:List (List HB)) (n k:Nat),fitsP n es→(es.getD k []).length=n / 256 ^ k % 256:=by
 intro es;induction es with
 | nil=>
  intro n k h;have:n=0:=h;subst this;simp
 | cons e es ih=>
  intro n k h;obtain ⟨h0,h1,h2⟩:=h;cases k with
  | zero=> simpa using h1
  | succ k=>
   have:=ih (n / 256) k h2;rw[Nat.div_div_eq_div_mul] at this;rw[Nat.pow_succ,Nat.mul_comm (256 ^ k) 256];simpa using this
theorem fits_len:∀(es:List (List HB)) (n k:Nat),fitsP n es→(n / 256 ^ k=0↔es.length≤k):=by
 intro es;induction es with
 | nil=>
  intro n k h;have:n=0:=h;subst this;simp
 | cons e es ih=>
  intro n k h;obtain ⟨h0,h1,h2⟩:=h;cases k with
  | zero=> simp;exact h0
  | succ k=>
   have:=ih (n / 256) k h2;rw[Nat.div_div_eq_div_mul] at this;rw[Nat.pow_succ,Nat.mul_comm (256 ^ k) 256];simpa using this
theorem fits_lt{es:List (List HB)}(h:fitsP n es)(k:Nat):(es.getD k []).length < 256:=by rw[fits_get es n k h];omega
theorem more_len{es:List (List HB)}(hf:fitsP n es)(L:List HB):∀k,(n+L.length) / 256 ^ k=n / 256 ^ k+(more N es L k).length:=by
 intro k;induction k with
 | zero=> simp[more]
 | succ k ih=>
  have h1:=fits_get es n k hf;rw[Nat.pow_succ,←Nat.div_div_eq_div_mul,←Nat.div_div_eq_div_mul,ih];simp only[more,List.length_map,chunksL_len,List.length_append];omega
theorem foldl_fits:∀(L:List HB) (es:List (List HB)) (n:Nat),fitsP n es→fitsP (n+L.length) (L.foldl (stepE N) es):=by
 intro L;induction L with
 | nil=> intro es n h;simpa using h
 | cons x L ih=>
  intro es n h;have:=ih _ (n+1) (step_main N es n x h).2.2.1;rw[List.foldl_cons,List.length_cons];rw[show n+(L.length+1)=n+1+L.length by omega];exact this
end
def pad3(l:List UInt8):List UInt8:=List.replicate ((3 - l.length % 3) % 3) 48++l
def grpF:Nat→List UInt8→List UInt8
 | 0,l=> l
 | n+1,l=> if l.length≤3 then l else 120::(l.take 3++47::grpF n (l.drop 3))
def grp(l:List UInt8):List UInt8:=grpF l.length l
theorem grpF_fuel:∀(n m:Nat) (l:List UInt8),l.length≤n→l.length≤m→grpF n l=grpF m l
 | 0,0,_,_,_=> rfl
 | 0,m+1,l,h,_=> by have:l= []:=List.eq_nil_of_length_eq_zero (by omega);subst this;simp[grpF]
 | n+1,0,l,_,h=> by have:l= []:=List.eq_nil_of_length_eq_zero (by omega);subst this;simp[grpF]
 | n+1,m+1,l,h1,h2=> by
  unfold grpF;by_cases h:l.length≤3
  ·rw[if_pos h,if_pos h]
  ·rw[if_neg h,if_neg h,grpF_fuel n m (l.drop 3) (by rw[List.length_drop];omega) (by rw[List.length_drop];omega)]
theorem grp_small(l:List UInt8)(h:l.length≤3):grp l=l:=by
 unfold grp;cases hl:l.length with
 | zero=> rfl
 | succ n=> simp[grpF,h]
theorem grp_step(l:List UInt8)(h:¬l.length≤3):grp l=120::(l.take 3++47::grp (l.drop 3)):=by
 unfold grp;obtain ⟨n,hn⟩:∃n,l.length=n+1:=⟨l.length - 1,by omega⟩;rw[hn];conv=> lhs;unfold grpF
 rw[if_neg h,grpF_fuel n (l.drop 3).length _ (by rw[List.length_drop];omega) (Nat.le_refl _)]
theorem pad3_len(l:List UInt8):(pad3 l).length=(l.length+2) / 3*3:=by unfold pad3;rw[List.length_append,List.length_replicate];omega
def tileB:List UInt8:= [116,105,108,101,47]
def pathB(k i w:Nat):List UInt8:=tileB++Go.Lib.decDigits k++ [47]++grp (pad3 (Go.Lib.decDigits i))++(if w < 256 then [46,112,47]++Go.Lib.decDigits w else [])
def gD(r:List UInt8)(q:Nat):Nat:=n24 (r.getD (3*q) 0) (r.getD (3*q+1) 0) (r.getD (3*q+2) 0)
def pw64(k:Nat):Nat:=if k=0 then 262144 else if k=1 then 4096 else if k=2 then 64 else 1
def ltN(r:List UInt8)(i:Nat):Nat:=gD r (i / 4) / pw64 (i % 4) % 64
theorem gD_lt(r:List UInt8)(q:Nat):gD r q < 16777216:=n24_lt _ _ _
theorem ltN_lt(r:List UInt8)(i:Nat):ltN r i < 64:=Nat.mod_lt _ (by decide)
theorem b64_drop:∀(q:Nat) (l:List UInt8),3*q≤l.length→(b64 l).drop (4*q)=b64 (l.drop (3*q))
 | 0,l,_=> by simp
 | q+1,l,h=> by rw[b64_step l (by omega),show 4*(q+1)=4*q+1+1+1+1 by omega];simp only[List.drop_succ_cons];rw[b64_drop q (l.drop 3) (by rw[List.length_drop];omega),List.drop_drop];congr 2;omega
theorem b64_nth(l:List UInt8)(q k:Nat)(h:3*q≤l.length):(b64 l)[4*q+k]? =(b64 (l.drop (3*q)))[k]? :=by rw[←b64_drop q l h,List.getElem?_drop]
theorem drop_at(l:List UInt8)(a j:Nat):(l.drop a).getD j 0=l.getD (a+j) 0:=by rw[List.getD_eq_getElem?_getD,List.getD_eq_getElem?_getD,List.getElem?_drop]
theorem two_drop(r:List UInt8)(h:r.length=32):∃a b,r.drop 30= [a,b]∧r.getD 30 0=a∧r.getD 31 0=b∧r.getD 32 0=0:=by
 have hl:(r.drop 30).length=2:=by rw[List.length_drop,h]
 match hd:r.drop 30,hl with
 | [a,b],_=>
  refine ⟨a,b,rfl,?_,?_,?_⟩
  ·have:=drop_at r 30 0;rw[hd] at this;simpa using this.symm
  ·have:=drop_at r 30 1;rw[hd] at this;simpa using this.symm
  ·have:=drop_at r 30 2;rw[hd] at this;simpa using this.symm
theorem b64_lt(r:List UInt8)(h:r.length=32)(i:Nat)(hi:i < 43):(b64 r)[i]? =some (lt64 (ltN r i)):=by
 obtain ⟨q,k,hk,rfl⟩:∃q k,k < 4∧i=4*q+k:=⟨i / 4,i % 4,Nat.mod_lt _ (by decide),by omega⟩;have hq:(4*q+k) / 4=q:=by omega
 have hm:(4*q+k) % 4=k:=by omega
 rw[b64_nth r q k (by omega)];unfold ltN;rw[hq,hm];rcases Nat.lt_or_ge q 10 with h10 | h10
 ·rw[b64_step (r.drop (3*q)) (by rw[List.length_drop];omega),drop_at,drop_at,drop_at];have hg:=gD_lt r q;unfold gD at*;rw[Nat.add_zero];generalize n24 (r.getD (3*q) 0) (r.getD (3*q+1) 0) (r.getD (3*q+2) 0)=g at*;rcases (show k=0∨k=1∨k=2∨k=3 by omega) with rfl | rfl | rfl | rfl
  ·simp[pw64];rw[Nat.mod_eq_of_lt (by omega)]
  ·simp[pw64]
  ·simp[pw64]
  ·simp[pw64]
 ·obtain rfl:q=10:=by omega
  obtain ⟨a,b,hd,ha,hb,hc⟩:=two_drop r h;rw[show 3*10=30 by rfl,hd];unfold gD;rw[show 3*10=30 by rfl,show 30+1=31 by rfl,show 30+2=32 by rfl,ha,hb,hc];have h1:=a.toNat_lt;have h2:=b.toNat_lt;have e0:(0:UInt8).toNat=0:=rfl;rcases (show k=0∨k=1∨k=2 by omega) with rfl | rfl | rfl
  ·simp only[b64,pw64,n24,e0];simp;congr 1;omega
  ·simp only[b64,pw64,n24,e0];simp;congr 1;omega
  ·simp only[b64,pw64,n24,e0];simp;congr 1;omega
theorem b64_pad(r:List UInt8)(h:r.length=32):(b64 r)[43]? =some 61:=by rw[show 43=4*10+3 by rfl,b64_nth r 10 3 (by omega)];obtain ⟨a,b,hd,_⟩:=two_drop r h;rw[show 3*10=30 by rfl,hd];rfl
def bitsN(r:List UInt8)(i:Nat):Nat:=gD r (i / 4) / (pw64 (i % 4)*64)
theorem bits_step(r:List UInt8)(i:Nat)(hk:i % 4≠3):bitsN r (i+1)=(if i % 4=0 then 0 else bitsN r i)*64+ltN r i:=by have hg:=gD_lt r (i / 4);unfold bitsN ltN;rw[show (i+1) / 4=i / 4 by omega,show (i+1) % 4=i % 4+1 by omega];generalize gD r (i / 4)=g at*;rcases (show i % 4=0∨i % 4=1∨i % 4=2 by omega) with e | e | e <;> rw[e] <;> simp[pw64] <;> omega
theorem bits_last(r:List UInt8)(i:Nat)(hk:i % 4=3):bitsN r i*64+ltN r i=gD r (i / 4):=by unfold bitsN ltN;rw[hk];simp[pw64];omega
theorem bits_lt(r:List UInt8)(i:Nat):bitsN r i < 16777216:=Nat.lt_of_le_of_lt (Nat.div_le_self _ _) (gD_lt r _)
theorem gD_bytes(r:List UInt8)(q:Nat):gD r q / 65536=(r.getD (3*q) 0).toNat∧gD r q / 256 % 256=(r.getD (3*q+1) 0).toNat∧gD r q % 256=(r.getD (3*q+2) 0).toNat:=by have h1:=(r.getD (3*q) 0).toNat_lt;have h2:=(r.getD (3*q+1) 0).toNat_lt;have h3:=(r.getD (3*q+2) 0).toNat_lt;unfold gD n24;omega
theorem bits_pad(r:List UInt8)(h:r.length=32):bitsN r 43 % 4=0∧bitsN r 43 / 1024=(r.getD 30 0).toNat∧bitsN r 43 / 4 % 256=(r.getD 31 0).toNat:=by obtain ⟨a,b,hd,ha,hb,hc⟩:=two_drop r h;have h1:=a.toNat_lt;have h2:=b.toNat_lt;have e0:(0:UInt8).toNat=0:=rfl;unfold bitsN gD;rw[show 43 / 4=10 by rfl,show 43 % 4=3 by rfl,show 3*10=30 by rfl,show 30+1=31 by rfl,show 30+2=32 by rfl,ha,hb,hc];simp only[n24,e0,pw64];simp;omega
theorem lt_asc:∀v,v < 64→43≤(lt64 v).toNat∧(lt64 v).toNat < 128:=by decide+kernel
end Go.Proofs.YtjnjpgdoncbahaaGreatDoor
