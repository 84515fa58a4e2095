/- Trees of hashes, tile by tile: plain mathematics; nothing of the program. -/
namespace Go.Proofs.YtnkcfkjeeennmaaGreatDoor
variable {n:Nat}
abbrev HB:=List UInt8
section
variable (N:HB→HB→HB)
def whole:Nat→List HB→HB
 | 0,l=> l.headD []
 | k+1,l=> N (whole k (l.take (2 ^ k))) (whole k (l.drop (2 ^ k)))
def pairs:List HB→List HB
 | a::b::t=> N a b::pairs t
 | _=> []
def pkD:Nat→List HB→List HB
 | 0,_=> []
 | j+1,l=> if 2 ^ j≤l.length then whole N j (l.take (2 ^ j))::pkD j (l.drop (2 ^ j)) else pkD j l
def peaksE:List (List HB)→List HB
 | []=> []
 | e::es=> peaksE es++pkD N 8 e
def cr(l:List HB)(i:Nat)(h:HB):HB:=(l.reverse.take i).foldl (fun h p=> N p h) h
def ones(n:Nat):Nat:=if h:n % 2=1 then ones (n / 2)+1 else 0
termination_by n
decreasing_by omega
def stepE:List (List HB)→HB→List (List HB)
 | [],h=> [[h]]
 | e::es,h=> if e.length=255 then []::stepE es (whole N 8 (e++ [h])) else (e++ [h])::es
def cE:Nat→List (List HB)→HB→HB
 | 0,_,h=> h
 | _+1,[],h=> h
 | k+1,e::es,h=> cE k es (whole N 8 (e++ [h]))
def lead:List (List HB)→Nat
 | []=> 0
 | e::es=> if e.length=255 then lead es+1 else 0
def fitsP:Nat→List (List HB)→Prop
 | n,[]=> n=0
 | n,e::es=> n≠0∧e.length=n % 256∧fitsP (n / 256) es
theorem pairs_take(l:List HB):∀m,pairs N (l.take (2*m))=(pairs N l).take m:=by
 intro m;induction m generalizing l with
 | zero=> simp[pairs]
 | succ m ih=>
  match l with
  | []=> simp[pairs]
  | [a]=> rw[show 2*(m+1)=2*m+1+1 by omega];simp[pairs]
  | a::b::t=>
   rw[show 2*(m+1)=2*m+1+1 by omega,List.take_succ_cons,List.take_succ_cons];simp only[pairs,List.take_succ_cons];rw[ih]
theorem pairs_drop(l:List HB):∀m,pairs N (l.drop (2*m))=(pairs N l).drop m:=by
 intro m;induction m generalizing l with
 | zero=> simp
 | succ m ih=>
  match l with
  | []=> simp[pairs]
  | [a]=> rw[show 2*(m+1)=2*m+1+1 by omega];simp[pairs]
  | a::b::t=>
   rw[show 2*(m+1)=2*m+1+1 by omega,List.drop_succ_cons,List.drop_succ_cons];simp only[pairs,List.drop_succ_cons];rw[ih]
theorem pairs_len(l:List HB):(pairs N l).length=l.length / 2:=by
 match l with
 | []=> simp[pairs]
 | [a]=> simp[pairs]
 | a::b::t=>
  simp only[pairs,List.length_cons];rw[pairs_len t];omega
theorem pairs_get(l:List HB)(i:Nat)(h:2*i+1 < l.length):(pairs N l)[i]? =some (N (l.getD (2*i) []) (l.getD (2*i+1) [])):=by
 induction i generalizing l with
 | zero=>
  match l with
  | []=> simp at h
  | [a]=> simp at h
  | a::b::t=> simp[pairs]
 | succ i ih=>
  match l with
  | []=> simp at h
  | [a]=> simp at h
  | a::b::t=>
   simp only[pairs,List.getElem?_cons_succ];rw[ih t (by simp at h;omega),show 2*(i+1)=2*i+1+1 by omega];simp
theorem whole_pairs:∀(k:Nat) (l:List HB),l.length=2 ^ (k+1)→whole N (k+1) l=whole N k (pairs N l):=by
 intro k;induction k with
 | zero=>
  intro l h;match l with
  | []=> simp at h
  | [a]=> simp at h
  | [a,b]=> simp[whole,pairs]
  | a::b::c::t=> simp at h
 | succ k ih=>
  intro l h;have e2:2 ^ (k+1)=2*2 ^ k:=by rw[Nat.pow_succ];omega
  have e3:2 ^ (k+1+1)=2*2 ^ (k+1):=by rw[Nat.pow_succ];omega
  have h1:(l.take (2 ^ (k+1))).length=2 ^ (k+1):=by rw[List.length_take];omega
  have h2:(l.drop (2 ^ (k+1))).length=2 ^ (k+1):=by rw[List.length_drop];omega
  show N (whole N (k+1) (l.take (2 ^ (k+1)))) (whole N (k+1) (l.drop (2 ^ (k+1))))=N (whole N k ((pairs N l).take (2 ^ k))) (whole N k ((pairs N l).drop (2 ^ k)));rw[ih _ h1,ih _ h2,e2,pairs_take,pairs_drop]
theorem ones_odd(h:n % 2=1):ones n=ones (n / 2)+1:=by rw[ones,dif_pos h]
theorem ones_even(h:n % 2≠1):ones n=0:=by rw[ones,dif_neg h]
theorem ones_low:∀(j m q:Nat),m+1 < 2 ^ j→ones (m+2 ^ j*q)=ones m:=by
 intro j;induction j with
 | zero=> intro m q h;simp at h
 | succ j ih=>
  intro m q h;have e:2 ^ (j+1)*q=2*(2 ^ j*q):=by rw[Nat.pow_succ,Nat.mul_comm (2 ^ j) 2,Nat.mul_assoc]
  have e1:2 ^ (j+1)=2*2 ^ j:=by rw[Nat.pow_succ];omega
  rw[e];generalize hr:2 ^ j*q=r;by_cases ho:m % 2=1
  ·rw[ones_odd ho,ones_odd (by omega),show (m+2*r) / 2=m / 2+r by omega,←hr,ih (m / 2) q (by omega)]
  ·rw[ones_even ho,ones_even (by omega)]
theorem ones_full:∀(j q:Nat),ones (2 ^ j - 1+2 ^ j*q)=j+ones q:=by
 intro j;induction j with
 | zero=> intro q;simp
 | succ j ih=>
  intro q;have e:2 ^ (j+1)*q=2*(2 ^ j*q):=by rw[Nat.pow_succ,Nat.mul_comm (2 ^ j) 2,Nat.mul_assoc]
  have e1:2 ^ (j+1)=2*2 ^ j:=by rw[Nat.pow_succ];omega
  have hp:0 < 2 ^ j:=Nat.two_pow_pos j;rw[e];have e2:(2 ^ (j+1) - 1+2*(2 ^ j*q)) / 2=2 ^ j - 1+2 ^ j*q:=by omega
  rw[ones_odd (by omega),e2,ih q];omega
theorem ones_lt:∀(j m:Nat),m+1 < 2 ^ j→ones m < j:=by
 intro j;induction j with
 | zero=> intro m h;simp at h
 | succ j ih=>
  intro m h;have e1:2 ^ (j+1)=2*2 ^ j:=by rw[Nat.pow_succ];omega
  by_cases ho:m % 2=1
  ·rw[ones_odd ho];have:=ih (m / 2) (by omega);omega
  ·rw[ones_even ho];omega
theorem cr_zero(l:List HB)(h:HB):cr N l 0 h=h:=by simp[cr]
theorem cr_cons(a:HB)(l:List HB)(i:Nat)(h:HB)(hi:i≤l.length):cr N (a::l) i h=cr N l i h:=by unfold cr;rw[List.reverse_cons,List.take_append_of_le_length (by simpa using hi)]
theorem cr_cons_all(a:HB)(l:List HB)(h:HB):cr N (a::l) (l.length+1) h=N a (cr N l l.length h):=by unfold cr;rw[List.take_of_length_le (by simp),List.take_of_length_le (by simp),List.reverse_cons,List.foldl_append];rfl
theorem cr_append(l p:List HB)(i:Nat)(h:HB):cr N (l++p) (p.length+i) h=cr N l i (cr N p p.length h):=by unfold cr;rw[List.reverse_append,List.take_of_length_le (l:=p.reverse) (by simp),List.take_append,List.take_of_length_le (l:=p.reverse) (by simp),List.foldl_append];congr 2;simp
theorem cr_tail(l p:List HB)(i:Nat)(h:HB)(hi:i≤p.length):cr N (l++p) i h=cr N p i h:=by unfold cr;rw[List.reverse_append,List.take_append_of_le_length (by simpa using hi)]
theorem cr_succ(l:List HB)(i:Nat)(h:HB)(hi:i < l.length):cr N l (i+1) h=N (l.getD (l.length - 1 - i) []) (cr N l i h):=by
 unfold cr;have hr:i < l.reverse.length:=by simpa using hi
 rw[List.take_succ_eq_append_getElem hr,List.foldl_append,List.getElem_reverse];simp[List.getD_eq_getElem?_getD,List.getElem?_eq_getElem (show l.length - 1 - i < l.length by omega)]
theorem pk_full:∀(j:Nat) (e:List HB) (h:HB),e.length+1=2 ^ j→(pkD N j e).length=j∧cr N (pkD N j e) j h=whole N j (e++ [h]):=by
 intro j;induction j with
 | zero=>
  intro e h he;have:e= []:=List.length_eq_zero_iff.1 (by simpa using he);subst this;simp[pkD,cr,whole]
 | succ j ih=>
  intro e h he;have e1:2 ^ (j+1)=2*2 ^ j:=by rw[Nat.pow_succ];omega
  have hp:0 < 2 ^ j:=Nat.two_pow_pos j;have hl:2 ^ j≤e.length:=by omega
  obtain ⟨h1,h2⟩:=ih (e.drop (2 ^ j)) h (by rw[List.length_drop];omega);rw[pkD,if_pos hl];refine ⟨by rw[List.length_cons,h1],?_⟩;have:=cr_cons_all N (whole N j (e.take (2 ^ j))) (pkD N j (e.drop (2 ^ j))) h;rw[h1] at this;rw[this,h2,whole,List.take_append_of_le_length hl,List.drop_append_of_le_length hl]
theorem pk_step:∀(j:Nat) (e:List HB) (h:HB),e.length+1 < 2 ^ j→
 ones e.length≤(pkD N j e).length∧pkD N j (e++ [h])=(pkD N j e).take ((pkD N j e).length - ones e.length)++ [cr N (pkD N j e) (ones e.length) h]:=by
 intro j;induction j with
 | zero=> intro e h he;simp at he
 | succ j ih=>
  intro e h he;have e1:2 ^ (j+1)=2*2 ^ j:=by rw[Nat.pow_succ];omega
  have hp:0 < 2 ^ j:=Nat.two_pow_pos j;by_cases hl:2 ^ j≤e.length
  ·have hd:(e.drop (2 ^ j)).length=e.length - 2 ^ j:=List.length_drop;obtain ⟨h1,h2⟩:=ih (e.drop (2 ^ j)) h (by omega);have ho:ones e.length=ones (e.drop (2 ^ j)).length:=by have:=ones_low j (e.drop (2 ^ j)).length 1 (by omega);rw[hd] at this⊢;rw[←this];congr 1;omega
   have hl2:2 ^ j≤(e++ [h]).length:=by simp;omega
   rw[pkD,if_pos hl,pkD,if_pos hl2,List.take_append_of_le_length hl,List.drop_append_of_le_length hl,h2,ho];refine ⟨by rw[List.length_cons];omega,?_⟩;rw[cr_cons _ _ _ _ _ h1,List.length_cons,show (pkD N j (e.drop (2 ^ j))).length+1 - ones (e.drop (2 ^ j)).length=((pkD N j (e.drop (2 ^ j))).length - ones (e.drop (2 ^ j)).length)+1 by omega,List.take_succ_cons];rfl
  ·have hx:pkD N (j+1) e=pkD N j e:=by rw[pkD,if_neg hl]
   rw[hx];by_cases hf:e.length+1=2 ^ j
   ·obtain ⟨h1,h2⟩:=pk_full N j e h hf;have ho:ones e.length=j:=by have:=ones_full j 0;rw[show e.length=2 ^ j - 1+2 ^ j*0 by omega,this,ones_even (by omega)];rfl
    have hl2:2 ^ j≤(e++ [h]).length:=by simp;omega
    rw[ho,h1,Nat.sub_self,h2,pkD,if_pos hl2,List.take_of_length_le (by simp;omega),List.drop_of_length_le (by simp;omega)];have h0:∀i,pkD N i []= []:=fun i=> by
     induction i with
     | zero=> rfl
     | succ i ih2=> rw[pkD,if_neg (by have:=Nat.two_pow_pos i;rw[List.length_nil];omega),ih2]
    rw[h0];exact ⟨Nat.le_refl _,rfl⟩
   ·have hl2:¬2 ^ j≤(e++ [h]).length:=by simp;omega
    obtain ⟨h1,h2⟩:=ih e h (by omega);rw[pkD,if_neg hl2];exact ⟨h1,h2⟩
theorem pk_nil:∀i,pkD N i []= []:=fun i=> by
 induction i with
 | zero=> rfl
 | succ i ih=> rw[pkD,if_neg (by have:=Nat.two_pow_pos i;rw[List.length_nil];omega),ih]
theorem step_main:∀(es:List (List HB)) (n:Nat) (h:HB),fitsP n es→
 ones n≤(peaksE N es).length∧peaksE N (stepE N es h)=(peaksE N es).take ((peaksE N es).length - ones n)++ [cr N (peaksE N es) (ones n) h]∧fitsP (n+1) (stepE N es h)∧lead es=ones n / 8∧∀k,k≤lead es→cr N (peaksE N es) (8*k) h=cE N k es h:=by
 intro es;induction es with
 | nil=>
  intro n h hf;have hn:n=0:=hf;subst hn;have h1:pkD N 8 [h]= [h]:=by simp[pkD,whole]
  refine ⟨by rw[ones_even (by omega)];simp,?_,?_,?_,?_⟩
  ·simp[stepE,peaksE,h1,ones_even,cr]
  ·simp[stepE,fitsP]
  ·simp[lead,ones_even]
  ·intro k hk;have:k=0:=by simpa[lead] using hk
   subst this;simp[cr,cE]
 | cons e es ih=>
  intro n h hf;obtain ⟨hn,he,hf2⟩:=hf;by_cases h255:e.length=255
  ·obtain ⟨p1,p2⟩:=pk_full N 8 e h (by rw[h255]);obtain ⟨i1,i2,i3,i4,i5⟩:=ih (n / 256) (whole N 8 (e++ [h])) hf2;have ho:ones n=8+ones (n / 256):=by have:=ones_full 8 (n / 256);rw[←this];congr 1;have:(2:Nat) ^ 8=256:=rfl;omega
   have hl:(peaksE N (e::es)).length=(peaksE N es).length+8:=by simp[peaksE,p1]
   refine ⟨by rw[hl,ho];omega,?_,?_,?_,?_⟩
   ·rw[stepE,if_pos h255,hl,ho];show peaksE N (stepE N es _)++pkD N 8 []=_;have hc:=cr_append N (peaksE N es) (pkD N 8 e) (ones (n / 256)) h;rw[p1,p2] at hc;show _=List.take _ (peaksE N es++pkD N 8 e)++ [cr N (peaksE N es++pkD N 8 e) _ h];rw[pk_nil,List.append_nil,i2,hc,List.take_append_of_le_length (by omega),show (peaksE N es).length+8 - (8+ones (n / 256))=(peaksE N es).length - ones (n / 256) by omega]
   ·rw[stepE,if_pos h255];refine ⟨by omega,by simp;omega,?_⟩;rw[show (n+1) / 256=n / 256+1 by omega];exact i3
   ·rw[lead,if_pos h255,i4,ho];omega
   ·intro k hk;rw[lead,if_pos h255] at hk;cases k with
    | zero=> simp[cr,cE]
    | succ k=>
     have hc:=cr_append N (peaksE N es) (pkD N 8 e) (8*k) h;rw[p1,p2] at hc;rw[show 8*(k+1)=8+8*k by omega];show cr N (peaksE N es++pkD N 8 e) _ h=_;rw[hc,i5 k (by omega)];rfl
  ·have hlt:e.length+1 < 2 ^ 8:=by have:(2:Nat) ^ 8=256:=rfl;omega
   obtain ⟨p1,p2⟩:=pk_step N 8 e h hlt;have ho:ones n=ones e.length:=by have:=ones_low 8 e.length (n / 256) hlt;rw[←this];congr 1;have:(2:Nat) ^ 8=256:=rfl;omega
   have h8:=ones_lt 8 e.length hlt;refine ⟨by rw[ho];simp[peaksE];omega,?_,?_,?_,?_⟩
   ·rw[stepE,if_neg h255,ho];show peaksE N es++pkD N 8 (e++ [h])=List.take _ (peaksE N es++pkD N 8 e)++ [cr N (peaksE N es++pkD N 8 e) _ h];rw[p2,cr_tail _ _ _ _ _ p1,←List.append_assoc];congr 1;have hl:(peaksE N (e::es)).length=(peaksE N es).length+(pkD N 8 e).length:=by simp[peaksE]
    rw[hl,List.take_append,List.take_of_length_le (l:=peaksE N es) (by omega)];congr 2;omega
   ·rw[stepE,if_neg h255];refine ⟨by omega,by simp;omega,?_⟩;rw[show (n+1) / 256=n / 256 by omega];exact hf2
   ·rw[lead,if_neg h255,ho];omega
   ·intro k hk;rw[lead,if_neg h255] at hk;have:k=0:=by omega
    subst this;simp[cr,cE]
theorem stepE_eq:∀(es:List (List HB)) (h:HB),stepE N es h=List.replicate (lead es) []++(es.getD (lead es) []++ [cE N (lead es) es h])::es.drop (lead es+1):=by
 intro es;induction es with
 | nil=> intro h;simp[stepE,lead,cE]
 | cons e es ih=>
  intro h;by_cases h255:e.length=255
  ·rw[stepE,if_pos h255,ih,lead,if_pos h255,List.replicate_succ];simp[cE]
  ·rw[stepE,if_neg h255,lead,if_neg h255];simp[cE]
end
end Go.Proofs.YtnkcfkjeeennmaaGreatDoor
