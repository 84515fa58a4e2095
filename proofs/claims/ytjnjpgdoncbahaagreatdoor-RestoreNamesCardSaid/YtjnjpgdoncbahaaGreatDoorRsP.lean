/- Plain law for layer 26: a number's digits from the left; reads of a store that may fail. -/
import Derived.Test.YtjnjpgdoncbahaaGreatDoorAlive25
import Derived.Test.YtjnjpgdoncbahaaGreatDoorTree
import Derived.Test.YtjnjpgdoncbahaaGreatDoorApp25
namespace Go.Proofs.YtjnjpgdoncbahaaGreatDoor
open Go.RowKit Go.Lib
variable {K M i n:Nat}{x x':StD}
def pfx(n i:Nat):Nat:=n / 10 ^ (nDigits n - i)
theorem pfx_step(h:i < nDigits n):pfx n (i+1)=10*pfx n i+pfx n (i+1) % 10:=by
 have e:pfx n i=pfx n (i+1) / 10:=by unfold pfx;rw[show nDigits n - i=nDigits n - (i+1)+1 by omega,Nat.pow_succ,←Nat.div_div_eq_div_mul]
 omega
theorem pfx_zero(n:Nat):pfx n 0=0:=Nat.div_eq_of_lt (lt_pow_nDigits n)
theorem pfx_all(n:Nat):pfx n (nDigits n)=n:=by simp[pfx]
theorem pfx_le(n i:Nat):pfx n i≤n:=Nat.div_le_self _ _
theorem dig_at(h:i < nDigits n):(decDigits n)[i]? =some (UInt8.ofNat (48+pfx n (i+1) % 10)):=by rw[decDigits_eq,List.getElem?_map,List.getElem?_range h];show some (UInt8.ofNat (48+n / 10 ^ (nDigits n - 1 - i) % 10))=_;rw[show nDigits n - 1 - i=nDigits n - (i+1) by omega];rfl
theorem pow_digits:∀(n:Nat),0 < n→10 ^ (nDigits n - 1)≤n:=fun n=> by
 induction n using Nat.strongRecOn with
 | _ n ih=>
  intro h0;by_cases h:n < 10
  ·rw[nDigits_small h];simpa using (show 1≤n from h0)
  ·have h1:=ih (n / 10) (by omega) (by omega);have h2:=nDigits_pos (n / 10);rw[nDigits_big h,show nDigits (n / 10)+1 - 1=nDigits (n / 10) - 1+1 by omega,Nat.pow_succ];omega
theorem pfx_one(h:1 < nDigits n):1≤pfx n 1∧pfx n 1 < 10:=by
 have h0:0 < n:=by
  rcases Nat.eq_zero_or_pos n with rfl | h0
  ·rw[nDigits_small (by decide)] at h;omega
  ·exact h0
 have h1:=pow_digits n h0;have h2:=pfx_step (n:=n) (i:=0) (by omega);rw[pfx_zero,Nat.zero_add] at h2;refine ⟨?_,by omega⟩;unfold pfx;exact (Nat.le_div_iff_mul_le (Nat.pow_pos (by decide))).2 (by omega)
def StD.rd(x:StD):Bool:=decide (((x.nr:Int)+1)∈x.rs)
def StD.on(x:StD)(k:Nat):StD:={x with nr:=x.nr+k}
theorem StD.on_zero(x:StD):x.on 0=x:=rfl
theorem StD.on_on(x:StD)(j k:Nat):(x.on j).on k=x.on (j+k):=by simp[StD.on,Nat.add_assoc]
theorem get_rd{s t:ByteArray}(hs:1≤s.size∧s.size≤256)(hd:x.dead=false)(h:lookL x.texts s=some t):x.get s=(x.on 1,if x.rd then ⟨#[]⟩ else t,if x.rd then some (7,none) else none):=by
 unfold StD.get StD.refuse nameOk;rw[if_pos (decide_eq_true hs),hd];unfold StD.rd;by_cases h7:((x.nr:Int)+1)∈x.rs
 ·simp[h7,StD.on,hd]
 ·simp[h7,StD.on,h,hd]
def RdOut(x:StD)(K:Nat)(x':StD)(ok:Bool):Prop:=
 ∃j,(∀i,i < j→(x.on i).rd=false)∧if ok then j=K∧x'=x.on K else j < K∧(x.on j).rd=true∧x'=x.on (j+1)
theorem RdOut.zero(x:StD):RdOut x 0 x true:=⟨0,fun _ h=> by omega,by simp[StD.on_zero]⟩
theorem RdOut.more(h:RdOut x K x' true)(hr:x'.rd=false):RdOut x (K+1) (x'.on 1) true:=by
 obtain ⟨j,h1,h2⟩:=h;simp only[if_true] at h2;obtain ⟨rfl,rfl⟩:=h2;refine ⟨j+1,fun i hi=> ?_,?_⟩
 ·rcases Nat.lt_or_ge i j with h | h
  ·exact h1 i h
  ·obtain rfl:i=j:=by omega
   exact hr
 ·simp only[if_true,StD.on_on,true_and]
theorem RdOut.fail(h:RdOut x K x' true)(hr:x'.rd=true)(hK:K < M):RdOut x M (x'.on 1) false:=by obtain ⟨j,h1,h2⟩:=h;simp only[if_true] at h2;obtain ⟨rfl,rfl⟩:=h2;exact ⟨j,h1,by simp only[Bool.false_eq_true,if_false];exact ⟨hK,hr,StD.on_on _ _ _⟩⟩
theorem RdOut.wide(h:RdOut x K x' false)(hK:K≤M):RdOut x M x' false:=by obtain ⟨j,h1,h2⟩:=h;simp only[Bool.false_eq_true,if_false] at h2;exact ⟨j,h1,by simp only[Bool.false_eq_true,if_false];exact ⟨by omega,h2.2⟩⟩
theorem RdOut.same{ok:Bool}(h:RdOut x K x' ok):x'.texts=x.texts∧x'.rs=x.rs∧x'.crash=x.crash∧x'.nw=x.nw∧x'.dead=x.dead∧x.nr≤x'.nr∧x'.nr≤x.nr+K:=by
 obtain ⟨j,h1,h2⟩:=h;cases ok <;> simp only[Bool.false_eq_true,if_false,if_true] at h2
 ·obtain ⟨h3,_,rfl⟩:=h2;exact ⟨rfl,rfl,rfl,rfl,rfl,by simp[StD.on],by simp[StD.on];omega⟩
 ·obtain ⟨rfl,rfl⟩:=h2;exact ⟨rfl,rfl,rfl,rfl,rfl,by simp[StD.on],by simp[StD.on]⟩
structure HeadT (T:TxtL) (n:Nat) (R:HB) (es:List (List HB)):Prop where
 ck:lookL T (str headB)=some (str (ckptB oL n R))
 fit:fitsP n es
 e32:E32 es
 n20:n≤1048576
 r32:R.length=32
 tl:∀k,es.getD k []≠ []→lookL T (str (pathB k (n / 256 ^ k / 256) (es.getD k []).length))=some (str (es.getD k []).flatten)
theorem holds_head{T:TxtL}{ls:List (List UInt8)}(H:Holds T oL ls)(hn:ls.length≤1048576):HeadT T ls.length (mthP (leafHs ls)) (edgesP ls):=by
 have hf:=edgesP_fits ls;refine ⟨?_,hf,edges_E32 ls,hn,root_len ls,fun k hk=> ?_⟩
 ·rw[H.ck,segH_all]
 ·have hlen:=fits_get _ _ k hf;have h256:(256:Nat) ^ k=2 ^ (8*k):=by rw[Nat.pow_mul]
  have hpos:0 < ((edgesP ls).getD k []).length:=List.length_pos_iff.2 hk;have hk3:k < 3:=by
   rcases Nat.lt_or_ge k 3 with h | h
   ·exact h
   ·exfalso;have h1:=(fits_len _ _ 3 hf).1 (Nat.div_eq_of_lt (by omega));rw[List.getD_eq_getElem?_getD,List.getElem?_eq_none (by omega)] at hk;exact hk rfl
  have hmem:(k,ls.length / 256 ^ k / 256,ls.length / 256 ^ k % 256)∈allT ls.length 3:=(allT_iff hk3).2 (by rw[←h256];omega);have ht:=H.tl _ hmem;have he:(edgesP ls).getD k []=tileH ls (k,ls.length / 256 ^ k / 256,ls.length / 256 ^ k % 256):=by have h1:(edgesP ls).getD k []=restL (lvl (leafHs ls) k):=edges_lvl _ k;have h2:=lvl_len (leafHs ls) k;rw[leafHs_len] at h2;rw[h1,tileH_lvl ls k _ _ (by omega)];unfold restL;rw[h2,List.take_of_length_le (by rw[List.length_drop,h2];omega)]
  rw[hlen,he];exact ht
def rdsE(es:List (List HB)):Nat:=es.countP (fun e=> decide (e≠ []))
theorem rdsE_take(es:List (List HB))(k:Nat)(h:k < es.length):rdsE (es.take (k+1))=rdsE (es.take k)+if es.getD k []= [] then 0 else 1:=by unfold rdsE;rw[List.take_add_one,List.getElem?_eq_getElem h,List.countP_append,List.getD_eq_getElem?_getD,List.getElem?_eq_getElem h];by_cases h0:es[k]= [] <;> simp[h0]
theorem rdsE_le(es:List (List HB))(k:Nat):rdsE (es.take k)≤rdsE es:=(List.take_sublist k es).countP_le
end Go.Proofs.YtjnjpgdoncbahaaGreatDoor
