/- How a log's edges grow, leaf by leaf and level by level: plain mathematics. -/
import Derived.Test.YtnkcfkjeeennmaaGreatDoorTree
namespace Go.Proofs.YtnkcfkjeeennmaaGreatDoor
variable {n:Nat}
section
variable (N:HB→HB→HB)
def restL(l:List HB):List HB:=l.drop (256*(l.length / 256))
def chunk(l:List HB)(j:Nat):List HB:=(l.drop (256*j)).take 256
def chunksL(l:List HB):List (List HB):=(List.range (l.length / 256)).map (chunk l)
def more(es:List (List HB))(L:List HB):Nat→List HB
 | 0=> L
 | k+1=> (chunksL (es.getD k []++more es L k)).map (whole N 8)
def rowG(es:List (List HB))(L:List HB)(k:Nat):List HB:=es.getD k []++more N es L k
theorem restL_len(l:List HB):(restL l).length=l.length % 256:=by unfold restL;rw[List.length_drop];omega
theorem restL_small{l:List HB}(h:l.length < 256):restL l=l:=by unfold restL;rw[Nat.div_eq_of_lt h];simp
theorem chunksL_small{l:List HB}(h:l.length < 256):chunksL l= []:=by unfold chunksL;rw[Nat.div_eq_of_lt h];simp
theorem chunksL_len(l:List HB):(chunksL l).length=l.length / 256:=by simp[chunksL]
theorem chunk_app(l:List HB)(x:HB)(j:Nat)(h:j < l.length / 256):chunk (l++ [x]) j=chunk l j:=by
 unfold chunk;have h1:256*j+256≤l.length:=by omega
 rw[List.drop_append_of_le_length (by omega),List.take_append_of_le_length (by rw[List.length_drop];omega)]
theorem restL_app(l:List HB)(x:HB)(h:(restL l).length≠255):restL (l++ [x])=restL l++ [x]∧chunksL (l++ [x])=chunksL l:=by
 rw[restL_len] at h;have hd:(l++ [x]).length / 256=l.length / 256:=by simp;omega
 constructor
 ·unfold restL;rw[hd,List.drop_append_of_le_length (by omega)]
 ·unfold chunksL;rw[hd];exact List.map_congr_left (fun j hj=> chunk_app l x j (by simpa using hj))
theorem restL_full(l:List HB)(x:HB)(h:(restL l).length=255):restL (l++ [x])= []∧chunksL (l++ [x])=chunksL l++ [restL l++ [x]]:=by
 have h0:=h;rw[restL_len] at h;have hd:(l++ [x]).length / 256=l.length / 256+1:=by simp;omega
 constructor
 ·unfold restL;rw[hd,List.drop_of_length_le (by simp;omega)]
 ·unfold chunksL;rw[hd,List.range_succ,List.map_append];congr 1
  ·exact List.map_congr_left (fun j hj=> chunk_app l x j (by simpa using hj))
  ·simp only[List.map_cons,List.map_nil,List.cons.injEq,and_true];unfold chunk;have e:List.drop (256*(l.length / 256)) l=restL l:=rfl;rw[List.drop_append_of_le_length (by omega),e,List.take_of_length_le (by simp[h0])]
theorem lead_le:∀(es:List (List HB)),lead es≤es.length:=by
 intro es;induction es with
 | nil=> simp[lead]
 | cons e es ih=> rw[lead];split <;> simp <;> omega
theorem lead_full:∀(es:List (List HB)) (k:Nat),k < lead es→(es.getD k []).length=255:=by
 intro es;induction es with
 | nil=> intro k h;simp[lead] at h
 | cons e es ih=>
  intro k h;rw[lead] at h;split at h
  ·cases k with
   | zero=> simpa
   | succ k=> simpa using ih k (by omega)
  ·omega
theorem lead_not:∀(es:List (List HB)),(es.getD (lead es) []).length≠255:=by
 intro es;induction es with
 | nil=> simp[lead]
 | cons e es ih=>
  rw[lead];split
  ·simpa using ih
  ·simpa
theorem cE_succ:∀(k:Nat) (es:List (List HB)) (h:HB),k < es.length→cE N (k+1) es h=whole N 8 (es.getD k []++ [cE N k es h]):=by
 intro k;induction k with
 | zero=>
  intro es h hk;cases es with
  | nil=> simp at hk
  | cons e es=> simp[cE]
 | succ k ih=>
  intro es h hk;cases es with
  | nil=> simp at hk
  | cons e es=>
   show cE N (k+1) es _=_;rw[ih es _ (by simpa using hk)];simp[cE]
theorem stepE_get(es:List (List HB))(h:HB)(k:Nat):(stepE N es h).getD k []=if k < lead es then [] else if k=lead es then es.getD k []++ [cE N k es h] else es.getD k []:=by
 rw[stepE_eq];by_cases h1:k < lead es
 ·rw[if_pos h1];simp[List.getD_eq_getElem?_getD,List.getElem?_append,h1]
 ·rw[if_neg h1];by_cases h2:k=lead es
  ·subst h2;simp[List.getD_eq_getElem?_getD,List.getElem?_append]
  ·rw[if_neg h2];obtain ⟨m,rfl⟩:∃m,k=lead es+1+m:=⟨k - lead es - 1,by omega⟩;simp only[List.getD_eq_getElem?_getD,List.getElem?_append,List.length_replicate];rw[if_neg (by omega),show lead es+1+m - lead es=m+1 by omega,List.getElem?_cons_succ,List.getElem?_drop]
theorem grow_main(es:List (List HB))(he:∀k,(es.getD k []).length < 256):∀(m:Nat) (L:List HB),L.length=m→
 (∀k,(L.foldl (stepE N) es).getD k []=restL (rowG N es L k))∧
 ∀h k,more N es (L++ [h]) k=more N es L k++(if k≤lead (L.foldl (stepE N) es) then [cE N k (L.foldl (stepE N) es) h] else []):=by
 have second:∀(L:List HB),(∀k,(L.foldl (stepE N) es).getD k []=restL (rowG N es L k))→∀h k,more N es (L++ [h]) k=more N es L k++(if k≤lead (L.foldl (stepE N) es) then [cE N k (L.foldl (stepE N) es) h] else []):=by
  intro L hL h k;generalize hE:L.foldl (stepE N) es=E at hL⊢;induction k with
  | zero=> simp[more,cE]
  | succ k ih=>
   have hr:=hL k;rw[rowG] at hr;show (chunksL (es.getD k []++more N es (L++ [h]) k)).map (whole N 8)=(chunksL (es.getD k []++more N es L k)).map (whole N 8)++_;rw[ih];by_cases h1:k≤lead E
   ·rw[if_pos h1,←List.append_assoc];by_cases h2:k < lead E
    ·have hf:=lead_full E k h2;rw[hr] at hf;rw[(restL_full _ _ hf).2,if_pos (by omega),List.map_append];have hc:=cE_succ N k E h (by have:=lead_le E;omega);rw[hc,hr];rfl
    ·have h3:k=lead E:=by omega
     have hf:(E.getD k []).length≠255:=by rw[h3];exact lead_not E
     rw[hr] at hf;rw[(restL_app _ _ hf).2,if_neg (by omega),List.append_nil]
   ·rw[if_neg h1,List.append_nil,if_neg (by omega),List.append_nil]
 intro m;induction m with
 | zero=>
  intro L hL;have:L= []:=List.length_eq_zero_iff.1 hL;subst this;have h0:∀k,more N es [] k= []:=by
   intro k;induction k with
   | zero=> rfl
   | succ k ih=> rw[more,ih,List.append_nil,chunksL_small (he k)];rfl
  have h1:∀k,(([]:List HB).foldl (stepE N) es).getD k []=restL (rowG N es [] k):=fun k=> by rw[rowG,h0,List.append_nil,restL_small (he k)];rfl
  exact ⟨h1,second [] h1⟩
 | succ m ih=>
  intro L hL;obtain ⟨L0,x,rfl⟩:∃L0 x,L=L0++ [x]:=by
   rcases List.eq_nil_or_concat L with h | ⟨a,b,h⟩
   ·subst h;simp at hL
   ·exact ⟨a,b,by simpa using h⟩
  obtain ⟨i1,i2⟩:=ih L0 (by simpa using hL);have h1:∀k,((L0++ [x]).foldl (stepE N) es).getD k []=restL (rowG N es (L0++ [x]) k):=fun k=> by
   rw[List.foldl_append,List.foldl_cons,List.foldl_nil,stepE_get,rowG,i2];have hr:=i1 k;rw[rowG] at hr;by_cases a1:k≤lead (L0.foldl (stepE N) es)
   ·rw[if_pos a1,←List.append_assoc];by_cases a2:k < lead (L0.foldl (stepE N) es)
    ·rw[if_pos a2];have hf:=lead_full _ k a2;rw[hr] at hf;rw[(restL_full _ _ hf).1]
    ·have a3:k=lead (L0.foldl (stepE N) es):=by omega
     rw[if_neg a2,if_pos a3];have hf:((L0.foldl (stepE N) es).getD k []).length≠255:=by rw[a3];exact lead_not _
     rw[hr] at hf;rw[(restL_app _ _ hf).1,hr]
   ·rw[if_neg (by omega),if_neg (by omega),if_neg a1,List.append_nil,hr]
  exact ⟨h1,second _ h1⟩
theorem fits_get:∀(es:List (List HB)) (n k:Nat),fitsP n es→(es.getD k []).length=n / 256 ^ k % 256:=by
 intro es;induction es with
 | nil=>
  intro n k h;have:n=0:=h;subst this;simp
 | cons e es ih=>
  intro n k h;obtain ⟨h0,h1,h2⟩:=h;cases k with
  | zero=> simpa using h1
  | succ k=>
   have:=ih (n / 256) k h2;rw[Nat.div_div_eq_div_mul] at this;rw[Nat.pow_succ,Nat.mul_comm (256 ^ k) 256];simpa using this
theorem fits_len:∀(es:List (List HB)) (n k:Nat),fitsP n es→(n / 256 ^ k=0↔es.length≤k):=by
 intro es;induction es with
 | nil=>
  intro n k h;have:n=0:=h;subst this;simp
 | cons e es ih=>
  intro n k h;obtain ⟨h0,h1,h2⟩:=h;cases k with
  | zero=> simp;exact h0
  | succ k=>
   have:=ih (n / 256) k h2;rw[Nat.div_div_eq_div_mul] at this;rw[Nat.pow_succ,Nat.mul_comm (256 ^ k) 256];simpa using this
theorem fits_lt{es:List (List HB)}(h:fitsP n es)(k:Nat):(es.getD k []).length < 256:=by rw[fits_get es n k h];omega
theorem more_len{es:List (List HB)}(hf:fitsP n es)(L:List HB):∀k,(n+L.length) / 256 ^ k=n / 256 ^ k+(more N es L k).length:=by
 intro k;induction k with
 | zero=> simp[more]
 | succ k ih=>
  have h1:=fits_get es n k hf;rw[Nat.pow_succ,←Nat.div_div_eq_div_mul,←Nat.div_div_eq_div_mul,ih];simp only[more,List.length_map,chunksL_len,List.length_append];omega
theorem foldl_fits:∀(L:List HB) (es:List (List HB)) (n:Nat),fitsP n es→fitsP (n+L.length) (L.foldl (stepE N) es):=by
 intro L;induction L with
 | nil=> intro es n h;simpa using h
 | cons x L ih=>
  intro es n h;have:=ih _ (n+1) (step_main N es n x h).2.2.1;rw[List.foldl_cons,List.length_cons];rw[show n+(L.length+1)=n+1+L.length by omega];exact this
end
end Go.Proofs.YtnkcfkjeeennmaaGreatDoor
