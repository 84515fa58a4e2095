/- Plain law for layer 26: a number's digits from the left; reads of a store that may fail. The statements' copies of texts with a mark behind: word, markText, isText, TwinTexts, LeftTexts. -/
import Derived.Test.YtjnjpgdoncbahaaGreatDoorAlive25
import Derived.Test.YtjnjpgdoncbahaaGreatDoorTree
import Derived.Test.YtjnjpgdoncbahaaGreatDoorApp25
import Derived.Test.YtjnjpgdoncbahaaGreatDoorTxt
import Derived.Test.YtjnjpgdoncbahaaGreatDoorCode
namespace Go.Proofs.YtjnjpgdoncbahaaGreatDoor
open Go.RowKit Go.Lib
set_option maxRecDepth 8000
set_option maxHeartbeats 4000000
variable {K M i n:Nat}{x x':StD}
def pfx(n i:Nat):Nat:=n / 10 ^ (nDigits n - i)
theorem pfx_step(h:i < nDigits n):pfx n (i+1)=10*pfx n i+pfx n (i+1) % 10:=by
 have e:pfx n i=pfx n (i+1) / 10:=by unfold pfx;rw[show nDigits n - i=nDigits n - (i+1)+1 by omega,Nat.pow_succ,←Nat.div_div_eq_div_mul]
 omega
theorem pfx_zero(n:Nat):pfx n 0=0:=Nat.div_eq_of_lt (lt_pow_nDigits n)
theorem pfx_all(n:Nat):pfx n (nDigits n)=n:=by simp[pfx]
theorem pfx_le(n i:Nat):pfx n i≤n:=Nat.div_le_self _ _
theorem dig_at(h:i < nDigits n):(decDigits n)[i]? =some (UInt8.ofNat (48+pfx n (i+1) % 10)):=by rw[decDigits_eq,List.getElem?_map,List.getElem?_range h];show some (UInt8.ofNat (48+n / 10 ^ (nDigits n - 1 - i) % 10))=_;rw[show nDigits n - 1 - i=nDigits n - (i+1) by omega];rfl
theorem pow_digits:∀(n:Nat),0 < n→10 ^ (nDigits n - 1)≤n:=fun n=> by
 induction n using Nat.strongRecOn with
 | _ n ih=>
  intro h0;by_cases h:n < 10
  ·rw[nDigits_small h];simpa using (show 1≤n from h0)
  ·have h1:=ih (n / 10) (by omega) (by omega);have h2:=nDigits_pos (n / 10);rw[nDigits_big h,show nDigits (n / 10)+1 - 1=nDigits (n / 10) - 1+1 by omega,Nat.pow_succ];omega
theorem pfx_one(h:1 < nDigits n):1≤pfx n 1∧pfx n 1 < 10:=by
 have h0:0 < n:=by
  rcases Nat.eq_zero_or_pos n with rfl | h0
  ·rw[nDigits_small (by decide)] at h;omega
  ·exact h0
 have h1:=pow_digits n h0;have h2:=pfx_step (n:=n) (i:=0) (by omega);rw[pfx_zero,Nat.zero_add] at h2;refine ⟨?_,by omega⟩;unfold pfx;exact (Nat.le_div_iff_mul_le (Nat.pow_pos (by decide))).2 (by omega)
def StD.rd(x:StD):Bool:=decide (((x.nr:Int)+1)∈x.rs)
def StD.on(x:StD)(k:Nat):StD:={x with nr:=x.nr+k}
theorem StD.on_zero(x:StD):x.on 0=x:=rfl
theorem StD.on_on(x:StD)(j k:Nat):(x.on j).on k=x.on (j+k):=by simp[StD.on,Nat.add_assoc]
theorem get_rd{s t:ByteArray}(hs:1≤s.size∧s.size≤256)(hd:x.dead=false)(h:lookL x.texts s=some t):x.get s=(x.on 1,if x.rd then ⟨#[]⟩ else t,if x.rd then some (7,none) else none):=by
 unfold StD.get StD.refuse nameOk;rw[if_pos (decide_eq_true hs),hd];unfold StD.rd;by_cases h7:((x.nr:Int)+1)∈x.rs
 ·simp[h7,StD.on,hd]
 ·simp[h7,StD.on,h,hd]
def RdOut(x:StD)(K:Nat)(x':StD)(ok:Bool):Prop:=
 ∃j,(∀i,i < j→(x.on i).rd=false)∧if ok then j=K∧x'=x.on K else j < K∧(x.on j).rd=true∧x'=x.on (j+1)
theorem RdOut.zero(x:StD):RdOut x 0 x true:=⟨0,fun _ h=> by omega,by simp[StD.on_zero]⟩
theorem RdOut.more(h:RdOut x K x' true)(hr:x'.rd=false):RdOut x (K+1) (x'.on 1) true:=by
 obtain ⟨j,h1,h2⟩:=h;simp only[if_true] at h2;obtain ⟨rfl,rfl⟩:=h2;refine ⟨j+1,fun i hi=> ?_,?_⟩
 ·rcases Nat.lt_or_ge i j with h | h
  ·exact h1 i h
  ·obtain rfl:i=j:=by omega
   exact hr
 ·simp only[if_true,StD.on_on,true_and]
theorem RdOut.fail(h:RdOut x K x' true)(hr:x'.rd=true)(hK:K < M):RdOut x M (x'.on 1) false:=by obtain ⟨j,h1,h2⟩:=h;simp only[if_true] at h2;obtain ⟨rfl,rfl⟩:=h2;exact ⟨j,h1,by simp only[Bool.false_eq_true,if_false];exact ⟨hK,hr,StD.on_on _ _ _⟩⟩
theorem RdOut.wide(h:RdOut x K x' false)(hK:K≤M):RdOut x M x' false:=by obtain ⟨j,h1,h2⟩:=h;simp only[Bool.false_eq_true,if_false] at h2;exact ⟨j,h1,by simp only[Bool.false_eq_true,if_false];exact ⟨by omega,h2.2⟩⟩
theorem RdOut.same{ok:Bool}(h:RdOut x K x' ok):x'.texts=x.texts∧x'.rs=x.rs∧x'.crash=x.crash∧x'.nw=x.nw∧x'.dead=x.dead∧x.nr≤x'.nr∧x'.nr≤x.nr+K:=by
 obtain ⟨j,h1,h2⟩:=h;cases ok <;> simp only[Bool.false_eq_true,if_false,if_true] at h2
 ·obtain ⟨h3,_,rfl⟩:=h2;exact ⟨rfl,rfl,rfl,rfl,rfl,by simp[StD.on],by simp[StD.on];omega⟩
 ·obtain ⟨rfl,rfl⟩:=h2;exact ⟨rfl,rfl,rfl,rfl,rfl,by simp[StD.on],by simp[StD.on]⟩
structure HeadT (T:TxtL) (n:Nat) (R:HB) (es:List (List HB)):Prop where
 ck:lookL T (str headB)=some (str (ckptB oL n R))
 fit:fitsP n es
 e32:E32 es
 n20:n≤1048576
 r32:R.length=32
 tl:∀k,es.getD k []≠ []→lookL T (str (pathB k (n / 256 ^ k / 256) (es.getD k []).length))=some (str (es.getD k []).flatten)
theorem holds_head{T:TxtL}{ls:List (List UInt8)}(H:Holds T oL ls)(hn:ls.length≤1048576):HeadT T ls.length (mthP (leafHs ls)) (edgesP ls):=by
 have hf:=edgesP_fits ls;refine ⟨?_,hf,edges_E32 ls,hn,root_len ls,fun k hk=> ?_⟩
 ·rw[H.ck,segH_all]
 ·have hlen:=fits_get _ _ k hf;have h256:(256:Nat) ^ k=2 ^ (8*k):=by rw[Nat.pow_mul]
  have hpos:0 < ((edgesP ls).getD k []).length:=List.length_pos_iff.2 hk;have hk3:k < 3:=by
   rcases Nat.lt_or_ge k 3 with h | h
   ·exact h
   ·exfalso;have h1:=(fits_len _ _ 3 hf).1 (Nat.div_eq_of_lt (by omega));rw[List.getD_eq_getElem?_getD,List.getElem?_eq_none (by omega)] at hk;exact hk rfl
  have hmem:(k,ls.length / 256 ^ k / 256,ls.length / 256 ^ k % 256)∈allT ls.length 3:=(allT_iff hk3).2 (by rw[←h256];omega);have ht:=H.tl _ hmem;have he:(edgesP ls).getD k []=tileH ls (k,ls.length / 256 ^ k / 256,ls.length / 256 ^ k % 256):=by have h1:(edgesP ls).getD k []=restL (lvl (leafHs ls) k):=edges_lvl _ k;have h2:=lvl_len (leafHs ls) k;rw[leafHs_len] at h2;rw[h1,tileH_lvl ls k _ _ (by omega)];unfold restL;rw[h2,List.take_of_length_le (by rw[List.length_drop,h2];omega)]
  rw[hlen,he];exact ht
def rdsE(es:List (List HB)):Nat:=es.countP (fun e=> decide (e≠ []))
theorem rdsE_take(es:List (List HB))(k:Nat)(h:k < es.length):rdsE (es.take (k+1))=rdsE (es.take k)+if es.getD k []= [] then 0 else 1:=by unfold rdsE;rw[List.take_add_one,List.getElem?_eq_getElem h,List.countP_append,List.getD_eq_getElem?_getD,List.getElem?_eq_getElem h];by_cases h0:es[k]= [] <;> simp[h0]
theorem rdsE_le(es:List (List HB))(k:Nat):rdsE (es.take k)≤rdsE es:=(List.take_sublist k es).countP_le
def textCells(l:List ByteArray):List Value:=l.map Value.string
def TwinTAt(w:World)(g:Nat)(l:List ByteArray):Prop:=w.heap[g]? =some (.cells (textCells l++ [Value.string (str (wordL 7777))]).toArray 9 (0,0))
theorem tcells_len(l:List ByteArray):(textCells l).length=l.length:=by simp[textCells]
theorem info_string':(Tryz.prog.info? 9).map (fun i=> (i.zero,i.size,i.bytes))=some (some (.string ⟨#[]⟩),1,16):=by kernel_rfl
theorem tcells_snoc(l:List ByteArray)(j:Nat)(s:ByteArray)(R:List Value)(hg:l[j]? =some s)(hR:0 < R.length):(textCells (l.take j)++R).set j (.string s)=textCells (l.take (j+1))++R.drop 1:=by
 have hj:j < l.length:=(List.getElem?_eq_some_iff.1 hg).1;have hl:(textCells (l.take j)).length=j:=by rw[tcells_len,List.length_take];omega
 cases R with
 | nil=> simp at hR
 | cons r R=>
  rw[List.set_append_right _ _ (by omega),hl,Nat.sub_self,List.set_cons_zero,List.take_add_one,hg];simp[textCells]
theorem twinT_any{w:World}{a:Option Addr}{l:List ByteArray}(h:TextsAt w a l)(ca:Nat)(hn:l.length≤1048576)(T:Tab10 w):
 Calls Tryz.prog 21 #[.slice a l.length ca] w fun e w'=> e= .returned (.slice (some ⟨w.heap.size,0,none⟩) l.length (l.length+1))∧TwinTAt w' w.heap.size l∧Ext w w':=by
 obtain ⟨i0,hi0,hz0,hz1,hz2⟩:=info_parts info_string';have HH:=ZA h;have hb1:16*(l.length+1)≤281474976710656:=by omega
 have hb2:l.length+1≤maxLen:=by unfold maxLen;omega
 have HB1:=ZA (show i0.bytes*(l.length+1)≤281474976710656 by rw[hz2];exact hb1);have HB2:=ZA hb2;have HT:=ZA T;have hni:(l.length:Int)≤1048576:=by omega
 clear h hb1 hb2 T;go_enter Tryz.func21,Tryz.ntmps21;go_wp2_with (refine wpList_make_full _ rfl _ _ 34 rfl w.heap.size 9 i0 _ 1 Tryz.underlying34 hi0 hz0 hz1 .i64 .i64 (l.length+1) (l.length+1) (l.length+1) rfl rfl (by simp) (by simp) HB1.o HB2.o (Nat.le_refl _) ?_);intro w1 hown hgrow;have HE1:=ZA ((Upd.refl none' w).grown hgrow (fun k hk=> by cases hk));have hblk:∃R:List Value,R.length=(l.length+1)*1∧w1.heap[w.heap.size]? =some (.cells R.toArray 9 (0,0)):=by
  rcases hown.2 with ⟨hv,_⟩ | ⟨g,cap,cur,hv,hb,hg,hnc,hcm,hcs,ht⟩
  ·cases hv
  ·simp only[Value.slice.injEq,Option.some.injEq,Addr.mk.injEq,and_true,true_and] at hv;obtain ⟨rfl,_,rfl⟩:=hv;obtain ⟨cl⟩:=cur;exact ⟨cl,by simpa using hcs,hg⟩
 obtain ⟨R,hR,hblk⟩:=hblk;have HBK:=ZA hblk;have HR:=ZA hR;clear hown hgrow hblk hR;go_wp2_with fail;go_loopw [4] (fun iv wr=> ∃(j:Nat) (R:List Value),iv= .int .i64 j∧j≤l.length∧R.length=l.length+1 - j∧wr.heap[w.heap.size]? =some (.cells (textCells (l.take j)++R).toArray 9 (0,0))∧Ext w wr) (fun iv _=> l.length - (RowKit.intOf iv).toNat);case atStart=> exact ⟨0,R,rfl,Nat.zero_le _,by rw[HR.o];omega,by simpa[textCells] using HBK.o,HE1.o⟩
 case round=>
  obtain ⟨j,R2,rfl,hj,hr2,hb,u⟩:=hrel;have HU:=ZA u;have HB:=ZA hb;have HR2:=ZA hr2;clear u hb hr2;have htl:(textCells (l.take j)).length=j:=by rw[tcells_len,List.length_take];omega
  have HTL:=ZA htl;clear htl;by_cases hlt:j < l.length
  ·have hg:=List.getElem?_eq_getElem hlt;obtain ⟨hh,b,o,rfl,hc⟩:=(HH.o.later HU.o) j _ hg;have hlti:(j:Int) < l.length:=by omega
   have hlt1:(j:Int) < l.length+1:=by omega
   have HG:=ZA hg;generalize l[j]=t at*;have f0:=free_of_blk HB.o j;have c0:∃v,wr.cell? ⟨w.heap.size,j,none⟩=some v:=by rw[cell_of_blk HB.o];exact ⟨_,Array.getElem?_eq_getElem (by simp only[List.size_toArray,List.length_append];have:=HTL.o;have:=HR2.o;omega)⟩
   obtain ⟨v0,c0⟩:=c0;have hset:=blk_set HB.o j (.string t);have hcs:(textCells (l.take j)++R2).toArray.setIfInBounds j (.string t)=(textCells (l.take (j+1))++R2.drop 1).toArray:=by rw[List.setIfInBounds_toArray,tcells_snoc l j t R2 HG.o (by rw[HR2.o];omega)]
   rw[hcs] at hset;have HS:=ZA hset;have HU2:=ZA (HU.o.setCell (p:=⟨w.heap.size,j,none⟩) (.inl (Nat.le_refl _)) (.string t));clear hset hcs hg hh;go_wp2_with fail;exact ⟨⟨j+1,R2.drop 1,by simp,by omega,by rw[List.length_drop,HR2.o];omega,HS.o,HU2.o⟩,by simp[RowKit.intOf];omega⟩
  ·obtain rfl:j=l.length:=by omega
   have hlt1:(l.length:Int) < l.length+1:=by omega
   have hb2:=HB.o;rw[List.take_length] at hb2;have CM:=markText_any 7777 (by omega) (HT.o.ext HU.o);have HB:=ZA hb2;clear hb2;go_wp2_with fail;refine CM.mono ?_;rintro e w2 ⟨rfl,u⟩;have hb3:=Ext.blk u HB.o;have f0:=free_of_blk hb3 l.length;have hsz:(textCells l++R2).length=l.length+1:=by rw[List.length_append,tcells_len,HR2.o];omega
   have c0:∃v,w2.cell? ⟨w.heap.size,l.length,none⟩=some v:=by rw[cell_of_blk hb3];exact ⟨_,Array.getElem?_eq_getElem (by simp only[List.size_toArray];omega)⟩
   obtain ⟨v0,c0⟩:=c0;have hset:=blk_set hb3 l.length (.string (str (wordL 7777)));have hcs:(textCells l++R2).toArray.setIfInBounds l.length (.string (str (wordL 7777)))=(textCells l++ [Value.string (str (wordL 7777))]).toArray:=by
    rw[List.setIfInBounds_toArray,List.set_append_right _ _ (by rw[tcells_len];omega),tcells_len,Nat.sub_self];have h1:=HR2.o;rw[show l.length+1 - l.length=1 by omega] at h1;match R2,h1 with
    | [r],_=> rfl
   rw[hcs] at hset;have HS:Hid (TwinTAt _ w.heap.size l):=ZA hset;have HU3:=ZA ((HU.o.trans u).setCell (p:=⟨w.heap.size,l.length,none⟩) (.inl (Nat.le_refl _)) (.string (str (wordL 7777))));clear u CM hset hcs hb3 hsz;go_wp2_with fail;go_ret;exact ⟨rfl,HS.o,HU3.o⟩
end Go.Proofs.YtjnjpgdoncbahaaGreatDoor
