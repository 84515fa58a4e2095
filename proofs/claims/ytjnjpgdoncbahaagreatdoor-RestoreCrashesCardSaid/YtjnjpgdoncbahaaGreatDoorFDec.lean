/- text.FromDecimal of a number's digits, by contract. checkpoint.take of the three lines that Format writes, by contract. checkpoint.Parse of what Format writes, by contract. The walk of checkpoint.Parse of what Format writes. restore.getter and what it makes, by contract. -/
import Derived.Test.YtjnjpgdoncbahaaGreatDoorRsP
import Derived.Test.YtjnjpgdoncbahaaGreatDoorGrW
import Derived.Test.YtjnjpgdoncbahaaGreatDoorHEq
import Derived.Test.YtjnjpgdoncbahaaGreatDoorAlive25
import Derived.Test.YtjnjpgdoncbahaaGreatDoorDec
import Derived.Laws.RangeString
import Derived.Lib.TrimAscii
import Derived.Test.YtjnjpgdoncbahaaGreatDoorRune
import Derived.Test.YtjnjpgdoncbahaaGreatDoorAp
namespace Go.Proofs.YtjnjpgdoncbahaaGreatDoor
open Go.RowKit Go.Lib Go.Sort
set_option maxRecDepth 20000
set_option maxHeartbeats 16000000
variable {B b cb q q1 q2:Nat}{se:Nat→Addr}{w:World}
theorem nDig_le{n:Nat}(h:n≤1048576):nDigits n≤7:=by
 rcases Nat.eq_zero_or_pos n with rfl | h0
 ·rw[nDigits_small (by decide)];decide
 ·have h1:=pow_digits n h0;rcases Nat.lt_or_ge 7 (nDigits n) with h2 | h2
  ·have:10 ^ 7≤10 ^ (nDigits n - 1):=Nat.pow_le_pow_right (by decide) (by omega);omega
  ·exact h2
theorem u8v_dig(d:Nat)(h:d < 10):u8v (UInt8.ofNat (48+d))= .int .u8 ((48+d:Nat):Int):=by unfold u8v;rw[show (UInt8.ofNat (48+d)).toNat=48+d by simp;omega]
theorem fdec_any(n:Nat)(hn:n≤1048576)(w:World):Calls Tryz.prog 217 #[.string (str (decDigits n))] w fun e w'=> e= .returned (.tuple #[.int .u64 n,.nilIface])∧w=w':=by
 have hL1:=nDigits_pos n;have hL7:=nDig_le hn;have hlen:=decDigits_length n;have HB:=ZA (fun i (h:i < nDigits n)=> (show u8v ((decDigits n).getD i 0)= .int .u8 ((48+pfx n (i+1) % 10:Nat):Int) from by rw[List.getD_eq_getElem?_getD,dig_at h];exact u8v_dig _ (Nat.mod_lt _ (by decide))));have HP:=ZA (fun i (h:i < nDigits n)=> pfx_step h);have H0:=ZA (pfx_zero n);have H1:=ZA (pfx_one (n:=n));have HA:=ZA (pfx_all n);have HLe:=ZA (pfx_le n);generalize hp:pfx n=p at*;generalize nDigits n=L at*;generalize decDigits n=s at*;have hsz:(str s).size=s.length:=str_size s;have hne:s.isEmpty=false:=by
  cases s with
  | nil=> simp at hlen;omega
  | cons a l=> rfl
 have HLN:=ZA (And.intro hlen (And.intro hL1 hL7));have hli:(s.length:Int)=L:=by rw[hlen]
 have hgt:¬(1048576:Int) < s.length:=by omega
 clear hp hL1;go_enter Tryz.func217,Tryz.ntmps217;go_wp2_with fail;go_loopw [4,5] (fun nv iv wr=> ∃i:Nat,i≤L∧iv= .int .i64 i∧nv= .int .u64 (p i)∧w=wr) (fun _ iv _=> L - (RowKit.intOf iv).toNat);case atStart=> exact ⟨0,Nat.zero_le _,rfl,by rw[H0.o];rfl,rfl⟩
 case round=>
  obtain ⟨i,hi,rfl,rfl,rfl⟩:=hrel;by_cases hlt:i < L
  ·have hlti:(i:Int) < s.length:=by omega
   have hlts:i < s.length:=by omega
   have hst:=HP.o i hlt;have hb:=HB.o i hlt;have hle:=HLe.o (i+1);have HS:=ZA hlts;obtain ⟨d,hd⟩:∃d,d=p (i+1) % 10:=⟨_,rfl⟩;have hd10:d < 10:=by omega
   rw[←hd] at hst hb;obtain ⟨c,hc⟩:∃c,c=48+d:=⟨_,rfl⟩;rw[←hc] at hb;have HV:=ZA hb;have h48:¬(c:Int) < 48:=by omega
   have h57:¬(57:Int) < (c:Int):=by omega
   have hsub:IntKind.u8.wrap ((c:Int) - 48)=d:=by rw[IntKind.wrap_u8'];omega
   obtain ⟨m,hmm⟩:∃m,m=10*p i:=⟨_,rfl⟩;have hcv:IntKind.u64.wrap (d:Int)=d:=by rw[IntKind.wrap_u64];omega
   have hs1:IntKind.u64.wrap ((18446744073709551615:Int) - d)=((18446744073709551615 - d:Nat):Int):=by rw[IntKind.wrap_u64];omega
   have hq:¬(((18446744073709551615 - d:Nat):Int)) / 10 < p i:=by omega
   have hq2:¬(((18446744073709551615 - d:Nat):Int)).tdiv 10 < p i:=by rw[Int.tdiv_eq_ediv_of_nonneg (by omega)];exact hq
   have hm:IntKind.u64.wrap ((10:Int)*p i)=(m:Int):=by rw[IntKind.wrap_u64];omega
   have ha:IntKind.u64.wrap ((m:Int)+d)=((p (i+1):Nat):Int):=by rw[IntKind.wrap_u64];omega
   have hwi:IntKind.i64.wrap ((i:Int)+1)=((i+1:Nat):Int):=(IntWalk.i64_in _ (by omega)).trans (by omega);have HLT:=ZA hlt;generalize hpn:p (i+1)=pn at*;have HPN:=ZA hpn;by_cases h1:i=1
   ·obtain ⟨h2,h3⟩:=H1.o (by omega);have hb0:=HB.o 0 (by omega);obtain ⟨d0,hd0⟩:∃d0,d0=48+p 1 % 10:=⟨_,rfl⟩;rw[Nat.zero_add,←hd0] at hb0;have HV0:=ZA hb0;have hn0:((d0:Int)==48)=false:=by rw[beq_eq_false_iff_ne];omega
    have hn0':¬(d0:Int)=48:=by omega
    have HS0:=ZA (show 0 < s.length by omega);subst h1;clear hb hb0 hst hle hd hd0 hpn h2 h3 hlt hlts hi hc hmm;go_wp2_with (first
     | (refine wpList_runG rfl (run_val (run_strIx _ rfl s 1 .i64 rfl rfl HS.o Tryz.underlying9) HV.o) ?_)
     | (refine wpList_runG rfl (run_val (run_strIx _ rfl s 0 .i64 rfl rfl HS0.o Tryz.underlying9) HV0.o) ?_))
    have hlt:=HLT.o;go_roundw;case rel=> exact ⟨2,by omega,by first | rfl | (simp <;> omega),by rw[HPN.o],by first | rfl | trivial⟩
    case measure=> simp[RowKit.intOf] <;> omega
   ·have hn1:((i:Int)==1)=false:=by rw[beq_eq_false_iff_ne];omega
    have hn1':¬(i:Int)=1:=by omega
    clear hb hst hle hd hpn hlt hlts hi h1 hc hmm;go_wp2_with (refine wpList_runG rfl (run_val (run_strIx _ rfl s i .i64 rfl rfl HS.o Tryz.underlying9) HV.o) ?_);have hlt:=HLT.o;go_roundw;case rel=> exact ⟨i+1,by omega,by first | rfl | (simp <;> omega),by rw[HPN.o],by first | rfl | trivial⟩
    case measure=> simp[RowKit.intOf] <;> omega
  ·have hlti:¬(i:Int) < s.length:=by omega
   obtain rfl:i=L:=by omega
   clear hi hlt;go_wp2_with fail;go_ret2;have hI:=HA.o;exact ⟨by first | rfl | (rw[←hI];rfl) | (simp[hI]),by first | rfl | trivial⟩
theorem ck_set0(o:List UInt8)(n:Nat)(R:HB)(s:ByteArray):(ckC o n R).toArray.setIfInBounds 0 (.string s)=(Value.string s::(ckC o n R).tail).toArray:=by simp[ckC]
theorem ck_set1(o:List UInt8)(n m:Nat)(R:HB):(ckC o n R).toArray.setIfInBounds 1 (.int .u64 m)=(ckC o m R).toArray:=by simp[ckC]
theorem ck_over(o:List UInt8)(n:Nat)(R S:HB)(hR:R.length=32)(hS:S.length=32):over (ckC o n R) 2 (S.map u8v)=ckC o n S:=by unfold over ckC;simp[hS];rw[show R.map u8v++ [Value.slice none 0 0]=R.map u8v++ [Value.slice none 0 0] from rfl,List.drop_left' (by rw[List.length_map,hR])]
theorem take0_any(E:Env B se w)(hB:B≤cb)(hb:w.heap[cb]? =some (.cells (ckC [] 0 z32B).toArray 36 (0,0))):
 Calls Tryz.prog 141 #[.pointer (some ⟨cb,0,none⟩),.int .i64 0,.string (str oL)] w fun e w'=> e= .returned (.bool true)∧w'.heap[cb]? =some (.cells (ckC oL 0 z32B).toArray 36 (0,0))∧Upd (one cb) w w':=by
 have h1:=blk_set hb 0 (.string (str oL));rw[ck_set0] at h1;have U:=(Upd.refl (one cb) w).setCell (p:=⟨cb,0,none⟩) (.inr rfl) (.string (str oL));have E1:=E.upd U (fun k hk=> by rw[show k=cb from hk];exact hB);have C:=name_any (w.setCell ⟨cb,0,none⟩ (.string (str oL))) oL (by decide) E1.bt E1.ut;rw[show nameB oL=true from name_log] at C;have H1:Hid ((w.setCell ⟨cb,0,none⟩ (.string (str oL))).heap[cb]? =some (.cells (ckC oL 0 z32B).toArray 36 (0,0))):=ZA h1;have HU:=ZA U;have c0:w.cell? ⟨cb,0,none⟩=some (.string (str [])):=cell_of_blk hb 0;have f0:=free_of_blk hb 0;clear h1 U E1 E hb;go_enter Tryz.func141,Tryz.ntmps141;go_wp2_with fail;refine C.mono ?_;rintro e w1 ⟨rfl,hx⟩;have HX:=ZA hx;clear C hx;go_wp2_with fail;go_ret;exact ⟨rfl,Ext.blk HX.o H1.o,HU.o.thenExt HX.o⟩
theorem take1_any(n:Nat)(hn:n≤1048576)(hb:w.heap[cb]? =some (.cells (ckC oL 0 z32B).toArray 36 (0,0))):
 Calls Tryz.prog 141 #[.pointer (some ⟨cb,0,none⟩),.int .i64 1,.string (str (decDigits n))] w fun e w'=> e= .returned (.bool true)∧w'.heap[cb]? =some (.cells (ckC oL n z32B).toArray 36 (0,0))∧Upd (one cb) w w':=by
 have h1:=blk_set hb 1 (.int .u64 n);rw[ck_set1] at h1;have HU:=ZA ((Upd.refl (one cb) w).setCell (p:=⟨cb,1,none⟩) (.inr rfl) (.int .u64 n));have C:=fdec_any n hn w;have H1:=ZA h1;have c1:w.cell? ⟨cb,1,none⟩=some (.int .u64 ((0:Nat):Int)):=cell_of_blk hb 1;have f1:=free_of_blk hb 1;have hni:(n:Int)≤1048576:=by omega
 generalize decDigits n=s at*;clear h1 hb;go_enter Tryz.func141,Tryz.ntmps141;go_wp2_with fail;refine C.mono ?_;rintro e w1 ⟨rfl,rfl⟩;clear C;go_wp2_with fail;go_ret;exact ⟨rfl,H1.o,HU.o⟩
theorem take2_any(n:Nat)(R:HB)(hR:R.length=32)(hb:w.heap[cb]? =some (.cells (ckC oL n z32B).toArray 36 (0,0))):
 Calls Tryz.prog 141 #[.pointer (some ⟨cb,0,none⟩),.int .i64 2,.string (str (b64 R))] w fun e w'=> e= .returned (.bool true)∧w'.heap[cb]? =some (.cells (ckC oL n R).toArray 36 (0,0))∧Upd (one cb) w w':=by
 obtain ⟨i0,hi0,hz0,hz1,hz2⟩:=info_parts info_u8;have C:=fb64_any R hR w;have HB:=ZA hb;have HR:=ZA hR;have HO:Hid (over (ckC oL n z32B) 2 (R.map u8v)=ckC oL n R):=ZA (ck_over oL n z32B R rfl hR);have HF:Hid (2+R.length≤(ckC oL n z32B).length):=ZA (by rw[hR,ck_len oL n z32B rfl];decide);have hsz:(str R).size=32:=by rw[str_size,hR]
 have HL:Hid (R.length≤32):=ZA (by omega);have hR2:(R.length:Int)=32:=by rw[hR];rfl
 generalize b64 R=s at*;clear hb hR;go_enter Tryz.func141,Tryz.ntmps141;go_wp2_with fail;refine C.mono ?_;rintro e w1 ⟨rfl,hx⟩;have HX:=ZA hx;have HB1:=ZA (Ext.blk hx HB.o);clear C hx;go_wp2_with (first
  | (refine wpList_copyStrR rfl _ _ 50 9 rfl 5 i0 Tryz.underlying50 hi0 hz1 cb 2 32 32 R (ckC oL n z32B) 36 rfl rfl HB1.o HL.o HF.o ?_;rw[HO.o]))
 go_ret;exact ⟨rfl,blk_setRow HB1.o _,((Upd.ext HX.o (one cb))).setRow (.inr rfl) _⟩
theorem run_strSl{P:Program}{o:Oper}{a:Act}(w:World){t:TypeId}{x l h:Operand}(ho:o.op= .slice t x (some l) (some h) none)(s:List UInt8)(i j:Nat)(p:List UInt8)(hx:a.eval x= .string (str s))(hl:a.eval l= .int .i64 i)(hh:a.eval h= .int .i64 j)(hij:i≤j∧j≤s.length)(hp:(s.drop i).take (j - i)=p)(hu:P.underlying t=some .string):
 (execOp a.eval o).run P w= .ok (.value (.string (str p))) w:=by
 have he:(str s).extract i j=str p:=by refine ByteArray.ext ?_;rw[ByteArray.data_extract];show s.toArray.extract i j=p.toArray;rw[List.extract_toArray,List.extract_eq_take_drop,hp]
 have hr:=run_slice_string (P:=P) (w:=w) t (str s) .i64 .i64 i j hu (by omega) (by omega) (by rw[str_size];omega);simp only[Int.toNat_natCast,he] at hr;simp only[execOp,ho,hx,Option.map_some,Option.map_none,hl,hh,Sem.run_bind,run_sliceAt_string w t _ _ _ _ hu,hr,Result.andThen_ok];rfl
def plainL(l:List UInt8):Prop:=∀c∈l,c.toNat < 128∧c≠10
theorem plain_log:plainL oL:=by unfold plainL oL;decide
theorem plain_dec(n:Nat):plainL (decDigits n):=fun c hc=> by
 rw[decDigits_eq] at hc;obtain ⟨t,_,rfl⟩:=List.mem_map.1 hc;have h:n / 10 ^ (nDigits n - 1 - t) % 10 < 10:=Nat.mod_lt _ (by decide);show (UInt8.ofNat (48+n / 10 ^ (nDigits n - 1 - t) % 10)).toNat < 128∧UInt8.ofNat (48+n / 10 ^ (nDigits n - 1 - t) % 10)≠10;generalize n / 10 ^ (nDigits n - 1 - t) % 10=d at*;have e:(UInt8.ofNat (48+d)).toNat=48+d:=by simp;omega
 refine ⟨by rw[e];omega,fun h10=> ?_⟩;have h2:(UInt8.ofNat (48+d)).toNat=(10:UInt8).toNat:=congrArg UInt8.toNat h10;rw[e] at h2;have h3:(10:UInt8).toNat=10:=rfl;omega
theorem plain_b64(r:List UInt8)(h:r.length=32):plainL (b64 r):=fun c hc=> by
 obtain ⟨i,hi,rfl⟩:=List.getElem_of_mem hc;have hl:(b64 r).length=44:=by rw[b64_len,h]
 rcases Nat.lt_or_ge i 43 with h43 | h43
 ·have h1:=b64_lt r h i h43;rw[List.getElem?_eq_getElem hi] at h1;rw[Option.some.inj h1];obtain ⟨h2,h3⟩:=lt_asc _ (ltN_lt r i);exact ⟨h3,fun e=> by rw[e] at h2;simp at h2⟩
 ·obtain rfl:i=43:=by omega
  have h1:=b64_pad r h;rw[List.getElem?_eq_getElem hi] at h1;rw[Option.some.inj h1];decide
def tx3(a b c:List UInt8):List UInt8:=a++ [10]++b++ [10]++c++ [10]
theorem tx3_len(a b c:List UInt8):(tx3 a b c).length=a.length+b.length+c.length+3:=by simp[tx3];omega
theorem tx3_cut(a b c:List UInt8):((tx3 a b c).drop 0).take a.length=a∧((tx3 a b c).drop (a.length+1)).take b.length=b∧((tx3 a b c).drop (a.length+b.length+2)).take c.length=c:=by
 have e1:tx3 a b c=a++([10]++b++ [10]++c++ [10]):=by simp[tx3]
 have e2:tx3 a b c=(a++ [10])++(b++([10]++c++ [10])):=by simp[tx3]
 have e3:tx3 a b c=(a++ [10]++b++ [10])++(c++ [10]):=by simp[tx3]
 refine ⟨?_,?_,?_⟩
 ·rw[e1,List.drop_zero,List.take_left'];rfl
 ·rw[e2,List.drop_left' (by simp),List.take_left'];rfl
 ·rw[e3,List.drop_left' (by simp;omega),List.take_left'];rfl
theorem tx3_at{a b c:List UInt8}(ha:plainL a)(hb:plainL b)(hc:plainL c)(i:Nat)(hi:i < (tx3 a b c).length):((tx3 a b c).getD i 0).toNat < 128∧((tx3 a b c).getD i 0=10↔i=a.length∨i=a.length+b.length+1∨i=a.length+b.length+c.length+2):=by
 have hl:=tx3_len a b c;have P:∀(l:List UInt8) (j:Nat),plainL l→j < l.length→(l.getD j 0).toNat < 128∧l.getD j 0≠10:=fun l j h hj=> by rw[List.getD_eq_getElem?_getD,List.getElem?_eq_getElem hj];exact h _ (List.getElem_mem hj)
 have e1:tx3 a b c=a++([10]++b++ [10]++c++ [10]):=by simp[tx3]
 have e2:tx3 a b c=(a++ [10])++(b++([10]++c++ [10])):=by simp[tx3]
 have e3:tx3 a b c=(a++ [10]++b++ [10])++(c++ [10]):=by simp[tx3]
 have e4:tx3 a b c=(a++ [10]++b)++([10]++c++ [10]):=by simp[tx3]
 have e5:tx3 a b c=(a++ [10]++b++ [10]++c)++ [10]:=by simp[tx3]
 have G:∀(x y:List UInt8) (j:Nat),j < x.length→(x++y).getD j 0=x.getD j 0:=fun x y j h=> by rw[List.getD_eq_getElem?_getD,List.getD_eq_getElem?_getD,List.getElem?_append_left h]
 have G2:∀(x y:List UInt8) (j:Nat),x.length≤j→(x++y).getD j 0=y.getD (j - x.length) 0:=fun x y j h=> by rw[List.getD_eq_getElem?_getD,List.getD_eq_getElem?_getD,List.getElem?_append_right h]
 rcases Nat.lt_or_ge i a.length with h | h
 ·rw[e1,G _ _ _ h];have:=P a i ha h;exact ⟨this.1,fun e=> absurd e this.2,fun e=> by omega⟩
 ·rcases Nat.eq_or_lt_of_le h with h | h
  ·rw[e1,G2 _ _ _ (by omega),←h,Nat.sub_self];exact ⟨by simp,fun _=> .inl rfl,fun _=> by simp⟩
  ·rcases Nat.lt_or_ge i (a.length+b.length+1) with h2 | h2
   ·rw[e2,G2 _ _ _ (by simp;omega),G _ _ _ (by simp;omega)];have:=P b (i - (a++ [10]).length) hb (by simp;omega);exact ⟨this.1,fun e=> absurd e this.2,fun e=> by omega⟩
   ·rcases Nat.eq_or_lt_of_le h2 with h2 | h2
    ·rw[e4,G2 _ _ _ (by simp;omega)];generalize hj:i - List.length _=j;obtain rfl:j=0:=by simp at hj;omega
     exact ⟨by simp,fun _=> .inr (.inl h2.symm),fun _=> by simp⟩
    ·rcases Nat.lt_or_ge i (a.length+b.length+c.length+2) with h3 | h3
     ·rw[e3,G2 _ _ _ (by simp;omega),G _ _ _ (by simp;omega)];have:=P c (i - (a++ [10]++b++ [10]).length) hc (by simp;omega);exact ⟨this.1,fun e=> absurd e this.2,fun e=> by omega⟩
     ·rw[e5,G2 _ _ _ (by simp;omega)];generalize hj:i - List.length _=j;obtain rfl:j=0:=by simp at hj;omega
      exact ⟨by simp,fun _=> .inr (.inr (by omega)),fun _=> by simp⟩
theorem ck_ones(o:List UInt8)(n:Nat)(R:HB):∀u∈ckC o n R,u.oneCell'=true:=fun u hu=> by unfold ckC at hu;simp only[List.mem_cons,List.mem_append,List.mem_map,List.not_mem_nil,or_false] at hu;rcases hu with rfl | rfl | ⟨c,_,rfl⟩ | rfl <;> rfl
def ckS(n:Nat)(R:HB):Nat→List Value
 | 0=> ckC [] 0 z32B
 | 1=> ckC oL 0 z32B
 | 2=> ckC oL n z32B
 | _=> ckC oL n R
def lnS(n:Nat)(R:HB):Nat→List UInt8
 | 0=> oL
 | 1=> decDigits n
 | _=> b64 R
def stS(L:Nat):Nat→Nat
 | 0=> 0
 | 1=> 4
 | 2=> L+5
 | _=> L+50
theorem ptake_any(E:Env B se w)(hB:B≤cb)(n:Nat)(hn:n≤1048576)(R:HB)(hR:R.length=32)(k:Nat)(hk:k < 3)(hb:w.heap[cb]? =some (.cells (ckS n R k).toArray 36 (0,0))):
 Calls Tryz.prog 141 #[.pointer (some ⟨cb,0,none⟩),.int .i64 k,.string (str (lnS n R k))] w fun e w'=> e= .returned (.bool true)∧w'.heap[cb]? =some (.cells (ckS n R (k+1)).toArray 36 (0,0))∧Upd (one cb) w w':=by
 rcases (show k=0∨k=1∨k=2 by omega) with rfl | rfl | rfl
 ·exact take0_any E hB hb
 ·exact take1_any n hn hb
 ·exact take2_any n R hR hb
theorem ps_facts(n:Nat)(_hn:n≤1048576)(R:HB)(hR:R.length=32)(L:Nat)(hL:L=(decDigits n).length):(ckptB oL n R).length=L+50∧(∀k,k < 3→((ckptB oL n R).drop (stS L k)).take (stS L (k+1) - 1 - stS L k)=lnS n R k∧stS L k+1≤stS L (k+1))∧
 ∀i k,k < 3→stS L k≤i→i < stS L (k+1)→((ckptB oL n R).getD i 0).toNat < 128∧((ckptB oL n R).getD i 0=10↔i+1=stS L (k+1)):=by
 have e:ckptB oL n R=tx3 oL (decDigits n) (b64 R):=rfl;have h3:oL.length=3:=rfl;have h44:(b64 R).length=44:=by rw[b64_len,hR]
 have hl:=tx3_len oL (decDigits n) (b64 R);obtain ⟨c1,c2,c3⟩:=tx3_cut oL (decDigits n) (b64 R);rw[e];rw[h3,h44,←hL] at hl;rw[h3,←hL] at c2 c3;rw[h44] at c3;refine ⟨by omega,fun k hk=> ?_,fun i k hk h1 h2=> ?_⟩
 ·rcases (show k=0∨k=1∨k=2 by omega) with rfl | rfl | rfl
  ·exact ⟨c1,by simp[stS]⟩
  ·refine ⟨?_,by simp[stS]⟩;show ((tx3 oL (decDigits n) (b64 R)).drop 4).take (L+5 - 1 - 4)=_;rw[show L+5 - 1 - 4=L by omega,hL];rw[←hL];exact c2
  ·refine ⟨?_,by simp[stS]⟩;show ((tx3 oL (decDigits n) (b64 R)).drop (L+5)).take (L+50 - 1 - (L+5))=_;rw[show L+50 - 1 - (L+5)=44 by omega,show L+5=3+L+2 by omega];exact c3
 ·have hi:i < (tx3 oL (decDigits n) (b64 R)).length:=by rw[hl];rcases (show k=0∨k=1∨k=2 by omega) with rfl | rfl | rfl <;> simp[stS] at h2 <;> omega
  obtain ⟨p1,p2⟩:=tx3_at plain_log (plain_dec n) (plain_b64 R hR) i hi;refine ⟨p1,p2.trans ?_⟩;rw[h3,h44,←hL];rcases (show k=0∨k=1∨k=2 by omega) with rfl | rfl | rfl <;> simp[stS] at h1 h2⊢ <;> omega
def PsRel(n:Nat)(R:HB)(L g cb:Nat)(s:List UInt8)(W:World)(nv av:Value)(wr:World):Prop:=
 ∃i k:Nat,k≤3∧stS L k≤i∧(k < 3→i < stS L (k+1))∧i≤L+50∧nv= .int .i64 k∧av= .int .i64 (stS L k)∧wr.heap[g]? =some (.stringIter (str s) i)∧wr.heap[cb]? =some (.cells (ckS n R k).toArray 36 (0,0))∧Upd (two g cb) W wr
theorem ck_size35(o:List UInt8)(n:Nat)(R:HB)(hR:R.length=32):(Tryz.prog.info? 36).map (·.size)=some (ckC o n R).length:=by rw[ck_len o n R hR];kernel_rfl
theorem parse_any(E:Env B se w)(n:Nat)(hn:n≤1048576)(R:HB)(hR:R.length=32):
 Calls Tryz.prog 39 #[.string (str (ckptB oL n R))] w fun e w'=> e= .returned (.tuple #[ckV oL n R,.nilIface])∧Ext w w':=by
 obtain ⟨L,hL⟩:∃L,L=(decDigits n).length:=⟨_,rfl⟩;have hL7:L≤7:=by rw[hL,decDigits_length];exact nDig_le hn
 obtain ⟨hlen,hcut,hat⟩:=ps_facts n hn R hR L hL;have HZ1:Hid (∀w7:World,(w7.alloc (.cells zckA 36)).heap[w7.heap.size]? =some (.cells (ckC [] 0 z32B).toArray 36 (0,0))):=ZA (fun w7=> blk_alloc w7 _);have HSZ:=ZA (ck_size35 oL n R hR);have HCL:=ZA (ck_len oL n R hR);have HE:=ZA E;have HNR:=ZA (And.intro hn hR);have HCUT:=ZA hcut;have HATS:=ZA hat;generalize ckptB oL n R=s at*;have hsz:(str s).size=s.length:=str_size s;have HLEN:=ZA hlen;have hgt:¬(1048576:Int) < s.length:=by omega
 have HL7:=ZA hL7;clear E hR hn hcut hat hL hlen hL7;go_enter Tryz.func39,Tryz.ntmps39;go_wp2_with fail;obtain ⟨p,hp⟩:∃p,p=w.heap.size:=⟨_,rfl⟩;obtain ⟨W1,hW1⟩:∃W1,W1=(w.alloc (.cells zckA 36)).alloc (.cells zckA 36):=⟨_,rfl⟩;have HX1:Hid (Ext w W1):=ZA (by rw[hW1];exact ((Upd.refl none' w).alloc _).alloc _);have HP1:Hid (W1.heap[p]? =some (.cells (ckC [] 0 z32B).toArray 36 (0,0))):=ZA (by rw[hW1,hp];exact blk_alloc_lt (HZ1.o w) _);have HC1:Hid (W1.heap[p+1]? =some (.cells (ckC [] 0 z32B).toArray 36 (0,0))):=ZA (by rw[hW1,hp];have h:=HZ1.o (w.alloc (.cells zckA 36));rwa [World.size_alloc] at h)
 have HS1:Hid (W1.heap.size=p+2):=ZA (by rw[hW1,World.size_alloc,World.size_alloc,hp]);rw[←hW1,←hp];have HG:=ZA (World.iter_heap W1 (str s) 0);have HX2:Hid (Ext W1 (W1.iter (str s) 0)):=ZA ((Upd.refl none' W1).alloc _);rw[show p+1+1=W1.heap.size from HS1.o.symm];rw[HS1.o] at HG;rw[HS1.o];have HPW:Hid (p=w.heap.size):=ZA hp;obtain ⟨W2,hW2⟩:∃W2,W2=W1.iter (str s) 0:=⟨_,rfl⟩;rw[←hW2] at HG HX2⊢;have HC2:=ZA (Ext.blk HX2.o HC1.o);have HP2:=ZA (Ext.blk HX2.o HP1.o);have HXW:Hid (Ext w W2):=ZA (HX1.o.trans HX2.o);have HB:Hid (B≤p+1):=ZA (by have:=HE.o.g.size;omega);clear hp hW1 hW2;go_loopw [5,6] (fun nv av wr=> PsRel n R L (p+2) (p+1) s W2 nv av wr) (fun _ _ wr=> s.length - posOf (p+2) wr);case atStart=> exact ⟨0,0,by decide,Nat.le_refl _,fun _=> by show 0 < 4;decide,Nat.zero_le _,rfl,rfl,HG.o,HC2.o,Upd.refl _ _⟩
 case round=>
  obtain ⟨i,k,hk3,hsi,hie,hil,rfl,rfl,hg,hc,hu⟩:=hrel;have HGR:=ZA hg;have HC:=ZA hc;have HU:=ZA hu;have HPO:=ZA (show posOf (p+2) wr=i by unfold posOf;rw[hg]);clear hg hc hu;by_cases hlt:i < s.length
  ·have hl2:i < (str s).size:=by rw[hsz];exact hlt
   have hk:k < 3:=by
    rcases Nat.lt_or_ge k 3 with h | h
    ·exact h
    ·exfalso;obtain rfl:k=3:=by omega
     have h1:stS L 3=L+50:=rfl;have:=HLEN.o;omega
   obtain ⟨h128,h10⟩:=HATS.o i k hk hsi (hie hk);obtain ⟨hcut,hst1⟩:=HCUT.o k hk;have hge:(str s)[i]'hl2=s.getD i 0:=by simp[List.getD_eq_getElem?_getD,List.getElem?_eq_getElem hlt];rfl
   have hdec:=decode_ascii (str s) i hl2 (by rw[hge];exact h128);rw[hge] at hdec;obtain ⟨c,hcd⟩:∃c,c=(s.getD i 0).toNat:=⟨_,rfl⟩;have h10n:c=10↔i+1=stS L (k+1):=by
    rw[←h10,hcd];constructor
    ·intro h;exact UInt8.toNat_inj.1 h
    ·intro h;rw[h];rfl
   rw[←hcd] at hdec;have HRUN:=ZA (fun (o:Oper) (a:Act) (x:Operand) (ho:o.op= .next x true) (hx:a.eval x= .pointer (some ⟨p+2,0,none⟩))=> (show (execOp a.eval o).run Tryz.prog wr= .ok (.value (.tuple #[.bool true,.int .i64 i,.int .i32 (c:Nat)])) (setObj' wr (p+2) (.stringIter (str s) (i+1))) by have:=exec_next (P:=Tryz.prog) wr ho (p+2) (str s) i hx HGR.o hl2;rw[hdec] at this;exact this))
   have HU3:=ZA (HU.o.setObj (g:=p+2) (.inr (.inl rfl)) (.stringIter (str s) (i+1)));have HG3:=ZA (setObj_at wr (p+2) (.stringIter (str s) (i+1)) (lt_of_blk HGR.o));have HC3:Hid ((setObj' wr (p+2) (.stringIter (str s) (i+1))).heap[p+1]? =some (.cells (ckS n R k).toArray 36 (0,0))):=ZA (((Upd.refl (one (p+2)) wr).setObj (g:=p+2) (.inr rfl) _).blk HC.o (fun e=> by have h9:p+1=p+2:=e;omega));generalize setObj' wr (p+2) (.stringIter (str s) (i+1))=w3 at*;have hwi:IntKind.i64.wrap ((i:Int)+1)=((i+1:Nat):Int):=(IntWalk.i64_in _ (by have:=HLEN.o;have:=HL7.o;omega)).trans (by omega);have hwk:IntKind.i64.wrap ((k:Int)+1)=((k+1:Nat):Int):=(IntWalk.i64_in _ (by omega)).trans (by omega);have HK:=ZA (And.intro hk (And.intro hsi (hie hk)));have HLT:=ZA hlt;have HST:=ZA hst1;by_cases hnl:c=10
   ·have hend:=h10n.1 hnl;have HEND:=ZA hend;have hn0:((c:Int) !=10)=false:=by simp;omega
    have HIJ:Hid (stS L k≤i∧i≤s.length):=ZA ⟨hsi,by omega⟩;have HPC:Hid ((s.drop (stS L k)).take (i - stS L k)=lnS n R k):=ZA (by rw[←hcut];congr 1;omega);have C:=ptake_any (HE.o.below (((Ext.below HXW.o HE.o.g.size)).trans (Upd.below HU3.o (by have:=HE.o.g.size;have:=HXW.o.size;omega) (fun q hq=> by have:=HB.o;rcases hq with e | e <;> omega)))) HB.o n HNR.o.1 R HNR.o.2 k hk HC3.o;subst hnl;clear hdec h128 h10 hcut hge hcd h10n hend hsi hie hst1 hlt hl2 hk;go_wp2_with (first
     | (refine wpList_run rfl (HRUN.o _ _ _ rfl rfl) ?_)
     | (refine wpList_run rfl (run_strSl _ rfl s (stS L k) i (lnS n R k) rfl rfl rfl HIJ.o HPC.o Tryz.underlying9) ?_))
    refine C.mono ?_;rintro e w4 ⟨rfl,hc4,hu4⟩;have HC4:=ZA hc4;have HG4:=ZA (hu4.blk HG3.o (fun e=> by have h9:p+2=p+1:=e;omega));have HU4:Hid (Upd (two (p+2) (p+1)) W2 w4):=ZA (HU3.o.trans (hu4.mono (fun _ _ h=> .inr h)));clear C hc4 hu4;go_wp2_with fail;have h1:=HK.o;have h2:=HEND.o;have h3:=HLEN.o;have h4:=HLT.o;refine ⟨⟨i+1,k+1,by omega,by omega,fun h=> ?_,by omega,by first | rfl | (simp <;> omega),by rw[←h2];first | rfl | (simp <;> omega),HG4.o,HC4.o,HU4.o⟩,?_⟩
    ·have:=(HCUT.o (k+1) h).2;omega
    ·rw[HPO.o,show posOf (p+2) w4=i+1 by unfold posOf;rw[HG4.o]];omega
   ·have hne:¬i+1=stS L (k+1):=fun h=> hnl (h10n.2 h);have HNE:=ZA hne;have hn1:((c:Int) !=10)=true:=by simp;omega
    clear hdec h128 h10 hcut hge hcd h10n hsi hie hst1 hlt hl2 hk hne hnl;go_wp2_with (refine wpList_run rfl (HRUN.o _ _ _ rfl rfl) ?_);have h1:=HK.o;have h2:=HNE.o;have h3:=HLEN.o;have h4:=HLT.o;refine ⟨⟨i+1,k,by omega,by omega,fun h=> by omega,by omega,rfl,rfl,HG3.o,HC3.o,HU3.o⟩,?_⟩;rw[HPO.o,show posOf (p+2) w3=i+1 by unfold posOf;rw[HG3.o]];omega
  ·have hl2:¬i < (str s).size:=by rw[hsz];exact hlt
   have HL2:=ZA hl2;obtain rfl:k=3:=by
    rcases Nat.lt_or_ge k 3 with h | h
    ·exfalso;have h1:=hie h;have h2:stS L (k+1)≤L+50:=by rcases (show k=0∨k=1∨k=2 by omega) with rfl | rfl | rfl <;> simp[stS] <;> omega
     have:=HLEN.o;omega
    ·omega
   have hend:((stS L 3:Nat):Int)=(s.length:Int):=by have h1:stS L 3=L+50:=rfl;rw[h1,HLEN.o]
   have hnlt:¬((stS L 3:Nat):Int) < (s.length:Int):=by omega
   have HCF:Hid (wr.heap[p+1]? =some (.cells (ckC oL n R).toArray 36 (0,0))):=ZA HC.o;have HCC:=ZA (blk_cells HCF.o);have HPR:=ZA (HU.o.blk HP2.o (fun e=> by rcases e with e | e <;> omega));have HON:=ZA (ck_ones oL n R);have HOV:Hid (over (ckC [] 0 z32B) 0 (ckC oL n R)=ckC oL n R):=ZA (over_all _ _ (by rw[HCL.o];rfl));have HFT:Hid (0+(ckC oL n R).length≤(ckC [] 0 z32B).length):=ZA (by rw[HCL.o];decide);clear hl2 hsi hie hil hlt;generalize stS L 3=sl at*;go_wp2_with (first
    | (refine wpList_run rfl (exec_stop wr rfl (p+2) (str s) i rfl HGR.o HL2.o) ?_)
    | refine wpList_loadAgg rfl 36 _ rfl (p+1) 0 rfl (ckC oL n R) Tryz.underlying36 rfl HSZ.o HCC.o ?_
    | refine wpList_storeAgg rfl 36 _ _ rfl p 0 rfl (ckC oL n R) rfl HSZ.o (ckC [] 0 z32B) 36 HPR.o HFT.o HON.o ?_)
   rw[HOV.o];exact bodyPost_ret (v:= .tuple #[ckV oL n R,.nilIface]) (results_cell_twoV rfl _ _ p 36 _ (0,0) _ _ rfl rfl (blk_setRow HPR.o _) Tryz.underlying36 rfl HSZ.o) rfl ⟨rfl,(HXW.o.then HU.o (fun q hq e=> by have:=HPW.o;rcases e with e | e <;> omega)).setRow (.inl (by have:=HPW.o;omega)) _⟩
abbrev gtF(q1 q2:Nat):Value:= .func (.func 143) #[] #[.pointer (some ⟨q1,0,none⟩),.pointer (some ⟨q2,0,none⟩)]
structure GtAt (w:World) (q1 q2 q b:Nat):Prop where
 b1:w.heap[q1]? =some (.cells #[.pointer (some ⟨q,0,none⟩)] 112 (0,0))
 b2:w.heap[q2]? =some (.cells #[.pointer (some ⟨b,0,none⟩)] 22 (0,0))
theorem GtAt.upd{w':World}{S:Nat→Prop}(h:GtAt w q1 q2 q b)(u:Upd S w w')(h1:¬S q1)(h2:¬S q2):GtAt w' q1 q2 q b:=⟨u.blk h.b1 h1,u.blk h.b2 h2⟩
theorem getter_any(w:World)(b q:Nat):Calls Tryz.prog 40 #[.pointer (some ⟨b,0,none⟩),.pointer (some ⟨q,0,none⟩)] w fun e w'=> ∃q1 q2,e= .returned (gtF q1 q2)∧GtAt w' q1 q2 q b∧w.heap.size≤q1∧w.heap.size≤q2∧Ext w w':=by
 go_enter Tryz.func40,Tryz.ntmps40;go_wp2_with fail;go_ret;refine ⟨_,_,rfl,⟨?_,?_⟩,?_,?_,((Upd.refl none' w).alloc _).alloc _⟩
 ·have h:=blk_alloc (w.alloc (.cells #[.pointer (some ⟨b,0,none⟩)] 22)) (.cells #[.pointer (some ⟨q,0,none⟩)] 112);rwa [World.size_alloc] at h
 ·exact blk_alloc_lt (blk_alloc w (.cells #[.pointer (some ⟨b,0,none⟩)] 22)) _
 ·simp
 ·simp
theorem getter1_any{mb:Nat}{tv:Value}{x:StD}{s t:ByteArray}(G:Genv B se w)(H:StAt w b mb tv x)(hB:B≤b)(hq:B≤q)(K:GtAt w q1 q2 q b)(hw:w.heap[q]? =some (.cells #[.nilIface] 24 (0,0)))(hs:1≤s.size∧s.size≤256)(hd:x.dead=false)(hn:x.nr < 4611686018427387904)(hL:x.rs.length < 4611686018427387904)(hl:lookL x.texts s=some t):
 Calls Tryz.prog 143 #[.string s,.pointer (some ⟨q1,0,none⟩),.pointer (some ⟨q2,0,none⟩)] w fun e w'=> e= .returned (.string (if x.rd then ⟨#[]⟩ else t))∧StAt w' b mb tv (x.on 1)∧w'.heap[q]? =some (.cells #[if x.rd then sv se 7 else .nilIface] 24 (0,0))∧GtAt w' q1 q2 q b∧Upd (two b q) w w':=by
 have C:=get_any G H hB s (Nat.le_trans hs.2 (by decide)) hn hL;unfold GetPost at C;rw[get_rd hs hd hl] at C;have hbq:q≠b:=fun e=> by rw[e,H.blk] at hw;simp at hw
 have h1b:q1≠b:=fun e=> by have h:=K.b1;rw[e,H.blk] at h;simp at h
 have h2b:q2≠b:=fun e=> by have h:=K.b2;rw[e,H.blk] at h;simp at h
 have h1q:q1≠q:=fun e=> by have h:=K.b1;rw[e,hw] at h;simp at h
 have h2q:q2≠q:=fun e=> by have h:=K.b2;rw[e,hw] at h;simp at h
 have HNE:=ZA (And.intro hbq (And.intro h1b (And.intro h2b (And.intro h1q h2q))));have c1:w.cell? ⟨q1,0,none⟩=some (.pointer (some ⟨q,0,none⟩)):=cell_of_blk K.b1 0;have c2:w.cell? ⟨q2,0,none⟩=some (.pointer (some ⟨b,0,none⟩)):=cell_of_blk K.b2 0;have cw:w.cell? ⟨q,0,none⟩=some .nilIface:=cell_of_blk hw 0;have HK:=ZA K;have HW:=ZA hw;have HG:=ZA G;have HBB:=ZA (And.intro hB hq);have HMQ:Hid (mb≠q∧∀g,tv.ownBlock=some g→g≠q):=ZA (And.intro (fun e=> by
  obtain ⟨es,c,hm⟩:=H.tex.blk;rw[e,hw] at hm;cases hm) (fun g hg e=> by
  obtain ⟨c,hc⟩:=row_type H.row hg;rw[e,hw] at hc;simp at hc))
 generalize hrd:x.rd=rd at*;clear G H hB hq K hw hs hd hn hL hl hbq h1b h2b h1q h2q hrd;cases rd with
 | true=>
  simp only[if_true,evS] at C⊢;go_enter Tryz.func143,Tryz.ntmps143;go_wp2_with fail;refine C.mono ?_;rintro e w1 ⟨rfl,hst,hu⟩;have HST:=ZA hst;have HU:=ZA hu;have HG1:=ZA (HG.o.below (Upd.below hu HG.o.size (fun k hk=> by rw[show k=b from hk];exact HBB.o.1)));have HW1:=ZA (hu.blk HW.o HNE.o.1);have c1:w1.cell? ⟨q1,0,none⟩=some (.pointer (some ⟨q,0,none⟩)):=cell_of_blk (hu.blk HK.o.b1 HNE.o.2.1) 0;have g6:w1.cell? ⟨6,0,none⟩=some (sv se 6):=HG1.o.cell 6 (by decide) (by decide);have CI:=is_any HG1.o (v:=sv se 7) (k:=7) (p:=none) ⟨by decide,by decide,rfl⟩ 6 (by decide) (by decide);clear C hst hu;have fq:=free_of_blk HW1.o 0;have cq:w1.cell? ⟨q,0,none⟩=some .nilIface:=cell_of_blk HW1.o 0;rw[show sv se 7= .iface 457 (.pointer (some (se 7))) from rfl] at CI⊢;rw[show sv se 6= .iface 457 (.pointer (some (se 6))) from rfl] at CI g6;obtain ⟨a7,h7⟩:∃a,a=se 7:=⟨_,rfl⟩;have H7:=ZA h7;rw[←h7] at CI⊢;generalize se 6=a6 at*;clear h7;go_wp2_with fail;refine CI.mono ?_;rintro e w2 ⟨rfl,rfl⟩;clear CI;go_wp2_with fail;go_ret;have U:=(Upd.refl (one q) w1).setCell (p:=⟨q,0,none⟩) (.inr rfl) (.iface 457 (.pointer (some a7)));refine ⟨rfl,HST.o.upd U (fun e=> HNE.o.1 (show b=q from e).symm) HMQ.o.1 HMQ.o.2,by have h:=blk_set HW1.o 0 (.iface 457 (.pointer (some a7)));rw[H7.o] at h⊢;exact h,(HK.o.upd HU.o HNE.o.2.1 HNE.o.2.2.1).upd U HNE.o.2.2.2.1 HNE.o.2.2.2.2,(HU.o.mono (fun _ _ h=> Or.inl h)).trans (U.mono (fun _ _ h=> Or.inr h))⟩
 | false=>
  simp only[Bool.false_eq_true,if_false,evS] at C⊢;have CI:=is_nil (se 6);go_enter Tryz.func143,Tryz.ntmps143;go_wp2_with fail;refine C.mono ?_;rintro e w1 ⟨rfl,hst,hu⟩;have HST:=ZA hst;have HU:=ZA hu;have HG1:=ZA (HG.o.below (Upd.below hu HG.o.size (fun k hk=> by rw[show k=b from hk];exact HBB.o.1)));have HW1:=ZA (hu.blk HW.o HNE.o.1);have c1:w1.cell? ⟨q1,0,none⟩=some (.pointer (some ⟨q,0,none⟩)):=cell_of_blk (hu.blk HK.o.b1 HNE.o.2.1) 0;have g6:w1.cell? ⟨6,0,none⟩=some (sv se 6):=HG1.o.cell 6 (by decide) (by decide);have CI:=CI w1;have CI:Calls Tryz.prog 144 #[.nilIface,sv se 6] w1 _:=CI;clear C hst hu;have fq:=free_of_blk HW1.o 0;have cq:w1.cell? ⟨q,0,none⟩=some .nilIface:=cell_of_blk HW1.o 0;rw[show sv se 6= .iface 457 (.pointer (some (se 6))) from rfl] at CI g6;generalize se 6=a6 at*;go_wp2_with fail;refine CI.mono ?_;rintro e w2 ⟨rfl,rfl⟩;clear CI;go_wp2_with fail;go_ret;have U:=(Upd.refl (one q) w1).setCell (p:=⟨q,0,none⟩) (.inr rfl) .nilIface;refine ⟨rfl,HST.o.upd U (fun e=> HNE.o.1 (show b=q from e).symm) HMQ.o.1 HMQ.o.2,blk_set HW1.o 0 .nilIface,(HK.o.upd HU.o HNE.o.2.1 HNE.o.2.2.1).upd U HNE.o.2.2.2.1 HNE.o.2.2.2.2,(HU.o.mono (fun _ _ h=> Or.inl h)).trans (U.mono (fun _ _ h=> Or.inr h))⟩
end Go.Proofs.YtjnjpgdoncbahaaGreatDoor
