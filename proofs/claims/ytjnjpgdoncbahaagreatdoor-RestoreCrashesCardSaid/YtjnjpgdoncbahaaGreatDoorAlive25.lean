/- The writer's statements' alive by contract. The statements' stands of chapter 25 by contract. PRINTED by wip/tools/gen_std.py. The statements' lies of chapter 25 by contract. PRINTED by wip/tools/gen_lies.py. The statements' puts of chapter 25 by contract. PRINTED by wip/tools/gen_puts.py. text.FromBase64 of the letters of 32 bytes, by contract. -/
import Derived.Test.YtjnjpgdoncbahaaGreatDoorApD
import Derived.Test.YtjnjpgdoncbahaaGreatDoorAp
import Derived.Test.YtjnjpgdoncbahaaGreatDoorSameCk
import Derived.Test.YtjnjpgdoncbahaaGreatDoorNaive
import Derived.Test.YtjnjpgdoncbahaaGreatDoorWrA
import Derived.Test.YtjnjpgdoncbahaaGreatDoorHEq
import Derived.Test.YtjnjpgdoncbahaaGreatDoorTyped3
import Derived.Test.YtjnjpgdoncbahaaGreatDoorDec
import Derived.Test.YtjnjpgdoncbahaaGreatDoorTree
import Derived.Test.YtjnjpgdoncbahaaGreatDoorRefFP
namespace Go.Proofs.YtjnjpgdoncbahaaGreatDoor
open Go.RowKit Go.Lib Go.Sort
set_option maxRecDepth 20000
set_option maxHeartbeats 16000000
variable {a:Act}{n:Nat}{t:Nat×Nat×Nat}{w:World}{x:Operand}
theorem run_eqlH0{op:Oper}(w:World){y:Operand}{tr:TypeId}(ho:op.op= .binOp .eql 33 x y tr)(p:List UInt8)(hx:a.eval x=hashV p)(hy:a.eval y=hashV p)(hp:p.length=32):(execOp a.eval op).run Tryz.prog w= .ok (.value (.bool true)) w:=by have h:=run_eqlH w ho p p hx hy hp hp;rw[decide_eq_true rfl] at h;exact h
theorem ck_rootC{g:Nat}{o:List UInt8}{root:HB}(hq:w.heap[g]? =some (.cells (ckC o n root).toArray 36 (0,0))):∀i v,(root.map u8v)[i]? =some v→w.cell? ⟨g,2+i,none⟩=some v:=fun i v hv=> by rw[cell_of_blk hq,List.getElem?_toArray];show (Value.string (str o):: .int .u64 n::(root.map u8v++ [.slice none 0 0]))[2+i]? =some v;rw[show 2+i=i+2 by omega,List.getElem?_cons_succ,List.getElem?_cons_succ,List.getElem?_append_left (List.getElem?_eq_some_iff.1 hv).1];exact hv
def tileH(ls:List (List UInt8))(t:Nat×Nat×Nat):List HB:=(List.range t.2.2).map fun j=> mthP (segH ls ((t.2.1*256+j)*2 ^ (8*t.1)) (((t.2.1*256+j)+1)*2 ^ (8*t.1)))
structure Holds (T:TxtL) (o:List UInt8) (ls:List (List UInt8)):Prop where
 ck:lookL T (str headB)=some (str (ckptB o ls.length (mthP (segH ls 0 ls.length))))
 lf:∀i s,ls[i]? =some s→lookL T (leafN i)=some (str s)
 tl:∀t∈allT ls.length 3,lookL T (str (pathB t.1 t.2.1 t.2.2))=some (str (tileH ls t).flatten)
theorem tileH_len(ls:List (List UInt8))(t:Nat×Nat×Nat):(tileH ls t).length=t.2.2:=by simp[tileH]
theorem rowTl_mem{k:Nat}(h:t∈rowTl n k):t.1=k∧t.2.1*256 < n / 2 ^ (8*k)∧t.2.2=min (n / 2 ^ (8*k) - t.2.1*256) 256:=by obtain ⟨i,hi,rfl⟩:=List.mem_map.1 h;rw[List.mem_range] at hi;exact ⟨rfl,by show i*256 < _;omega,rfl⟩
theorem allT_mem{n:Nat}{t:Nat×Nat×Nat}:∀{K:Nat},t∈allT n K→t.1 < K∧t.2.1*256 < n / 2 ^ (8*t.1)∧t.2.2=min (n / 2 ^ (8*t.1) - t.2.1*256) 256
 | 0,h=> by cases h
 | K+1,h=> by
  rcases List.mem_append.1 h with h | h
  ·obtain ⟨h1,h2⟩:=allT_mem h;exact ⟨by omega,h2⟩
  ·obtain ⟨h1,h2⟩:=rowTl_mem h;rw[h1];exact ⟨Nat.lt_succ_self K,h2⟩
theorem tile_facts{ls:List (List UInt8)}(hc:ls.length≤1048576)(h:t∈allT ls.length 3):t.1≤2∧t.2.1≤65536∧1≤t.2.2∧t.2.2≤256∧
 ∀j x,(tileH ls t)[j]? =some x→((t.2.1*256+j)+1)*2 ^ (8*t.1)≤ls.length∧x=mthP (segH ls ((t.2.1*256+j)*2 ^ (8*t.1)) (((t.2.1*256+j)+1)*2 ^ (8*t.1))):=by
 obtain ⟨h1,h2,h3⟩:=allT_mem h;have hd:=Nat.div_le_self ls.length (2 ^ (8*t.1));refine ⟨by omega,by omega,by omega,by omega,fun j x hj=> ?_⟩;have hjl:=(List.getElem?_eq_some_iff.1 hj).1;rw[tileH_len] at hjl;refine ⟨?_,?_⟩
 ·have h4:t.2.1*256+j+1≤ls.length / 2 ^ (8*t.1):=by omega
  exact Nat.le_trans (Nat.mul_le_mul_right _ h4) (Nat.div_mul_le_self _ _)
 ·have h5:=(List.getElem?_eq_some_iff.1 hj).2;rw[←h5];simp[tileH]
theorem leafN_ok(i:Nat)(h:i < 18446744073709551616):1≤(leafN i).size∧(leafN i).size≤256:=by have:=leafN_size i h;refine ⟨?_,by omega⟩;show 1≤(str leafB++str (Lib.decDigits i)).size;rw[ByteArray.size_append,str_size];show 1≤leafB.length+_;have:leafB.length=5:=rfl;omega
theorem pathB_ok(k i m:Nat)(hk:k≤2)(hi:i≤65536)(hm:m≤256):1≤(str (pathB k i m)).size∧(str (pathB k i m)).size≤256:=by rw[str_size];have h:=pathB_len k i m (by omega) hi (by omega);refine ⟨?_,by omega⟩;unfold pathB;simp only[List.length_append];have:tileB.length=5:=rfl;omega
def newT(n m:Nat):List (Nat×Nat×Nat):=(allT m 3).filter (fun t=> decide (t∉allT n 3))
def putsN(n m:Nat):Nat:=if n=m then 0 else m - n+1+(newT n m).length
theorem i64_and_nat'(a b:Nat)(ha:a < 9223372036854775808)(hb:b < 9223372036854775808):bits .and .i64 (a:Int) (b:Int)=((a &&& b:Nat):Int):=by have h3:(a &&& b) < 9223372036854775808:=Nat.lt_of_le_of_lt Nat.and_le_left ha;show IntKind.i64.wrap ((BitVec.ofInt 64 (a:Int) &&& BitVec.ofInt 64 (b:Int)).toNat:Int)=_;rw[BitVec.toNat_and,BitVec.ofInt_natCast,BitVec.ofInt_natCast,BitVec.toNat_ofNat,BitVec.toNat_ofNat,Nat.mod_eq_of_lt (by omega),Nat.mod_eq_of_lt (by omega)];exact IntWalk.i64_in _ (by omega)
theorem i64_or_nat'(a b:Nat)(ha:a < 9223372036854775808)(hb:b < 9223372036854775808)(h3:(a ||| b) < 9223372036854775808):bits .or .i64 (a:Int) (b:Int)=((a ||| b:Nat):Int):=by show IntKind.i64.wrap ((BitVec.ofInt 64 (a:Int) ||| BitVec.ofInt 64 (b:Int)).toNat:Int)=_;rw[BitVec.toNat_or,BitVec.ofInt_natCast,BitVec.ofInt_natCast,BitVec.toNat_ofNat,BitVec.toNat_ofNat,Nat.mod_eq_of_lt (by omega),Nat.mod_eq_of_lt (by omega)];exact IntWalk.i64_in _ (by omega)
theorem and3i(i:Nat)(h:i < 16777216):bits .and .i64 (i:Int) 3=((i % 4:Nat):Int):=by have:=i64_and_nat' i 3 (by omega) (by decide);rw[and3] at this;exact this
theorem or6i(b n:Nat)(hb:b < 16777216)(hn:n < 64):bits .or .i64 ((b*64:Nat):Int) (n:Int)=((b*64+n:Nat):Int):=by have h:=nat_join 6 (b*64) n (by omega) (by omega);rw[i64_or_nat' _ _ (by omega) (by omega) (by rw[h];omega),h]
theorem idx_lt:∀v,v < 64→Lib.indexByte lettersL (lt64 v)=(v:Int):=by decide+kernel
theorem idx_pad:Lib.indexByte lettersL 61= -1:=by decide+kernel
theorem idx_any(c:UInt8)(w:World):Calls Tryz.prog 268 #[.string (str lettersL),u8v c] w fun e w'=> e= .returned (.int .i64 (Lib.indexByte lettersL c))∧w=w':=by refine (Tryz.strings_IndexByte (str lettersL) c.toNat w).mono ?_;rintro e w' ⟨rfl,rfl⟩;exact ⟨by rw[show ((c.toNat:Int)).toNat.toUInt8=c by simp,show (str lettersL).data.toList=lettersL from rfl],rfl⟩
theorem run_threeB{P:Program}(w:World)(t e:TypeId)(ie:TypeInfo)(hu:P.underlying t=some (.slice e))(hq:P.info? e=some ie)(hz:ie.zero=some (.int .u8 0))(hs:ie.size=1)(a b c:UInt8):
 (Instr.buildSlice t 3 #[(0,u8v a),(1,u8v b),(2,u8v c)]).run P w= .ok (.slice (some ⟨w.heap.size,0,none⟩) 3 3) (w.alloc (.cells #[u8v a,u8v b,u8v c] e)):=by
 cases ie
 simp only at hs hz;subst hs;refine run_buildSlice (P:=P) w t e 3 _ #[u8v a,u8v b,u8v c] _ (.int .u8 0) hu hq hz (by simp) (by simp) ?_;simp[Instr.fill,Value.cells,Array.range];rfl
def FbRel(w:World)(r:List UInt8)(ov bv pv dv iv:Value)(wr:World):Prop:=
 ∃(i bt:Nat) (xs:List UInt8),i≤44∧iv= .int .i64 i∧bv= .int .i64 bt∧(i % 4≠0→bt=bitsN r i)∧bt < 16777216∧pv= .int .i64 ((if i=44 then 1 else 0:Nat):Int)∧dv= .bool (decide (i=44))∧xs=r.take (if i=44 then 32 else 3*(i / 4))∧wr.ownsRow w.heap.size 5 1 ov xs.length (xs.map u8v)∧Ext w wr
theorem fb_next{wr:World}{r xs:List UInt8}{ov:Value}{i bt:Nat}(h:i < 43)(hx:xs=r.take (3*((i+1) / 4)))(hb:(i+1) % 4≠0→bt=bitsN r (i+1))(h24:bt < 16777216)(ho:wr.ownsRow w.heap.size 5 1 ov xs.length (xs.map u8v))(hu:Ext w wr):
 FbRel w r ov (.int .i64 bt) (.int .i64 0) (.bool false) (.int .i64 ((i:Int)+1)) wr∧44 - (RowKit.intOf (.int .i64 ((i:Int)+1))).toNat < 44 - (RowKit.intOf (.int .i64 (i:Int))).toNat:=by
 refine ⟨⟨i+1,bt,xs,by omega,rfl,rfl,hb,h24,by rw[if_neg (by omega)];rfl,by rw[decide_eq_false (by omega)],by rw[if_neg (by omega)];exact hx,ho,hu⟩,?_⟩;simp only[RowKit.intOf];omega
theorem take3(r:List UInt8)(q:Nat)(h:3*q+3≤r.length):r.take (3*q+3)=r.take (3*q)++ [r.getD (3*q) 0,r.getD (3*q+1) 0,r.getD (3*q+2) 0]:=by rw[List.take_add_one,List.take_add_one,List.take_add_one,List.getElem?_eq_getElem (show 3*q < r.length by omega),List.getElem?_eq_getElem (show 3*q+1 < r.length by omega),List.getElem?_eq_getElem (show 3*q+2 < r.length by omega)];simp only[List.getD_eq_getElem?_getD,List.getElem?_eq_getElem (show 3*q < r.length by omega),List.getElem?_eq_getElem (show 3*q+1 < r.length by omega),List.getElem?_eq_getElem (show 3*q+2 < r.length by omega),Option.getD_some,Option.toList_some,List.append_assoc,List.cons_append,List.nil_append]
theorem take2(r:List UInt8)(h:r.length=32):r.take 32=r.take 30++ [r.getD 30 0,r.getD 31 0]:=by rw[show r.take 32=r.take (30+1+1) from rfl,List.take_add_one,List.take_add_one,List.getElem?_eq_getElem (show 30 < r.length by omega),List.getElem?_eq_getElem (show 30+1 < r.length by omega)];simp only[List.getD_eq_getElem?_getD,List.getElem?_eq_getElem (show 30 < r.length by omega),List.getElem?_eq_getElem (show 31 < r.length by omega),Option.getD_some,Option.toList_some,List.append_assoc,List.cons_append,List.nil_append]
theorem exec_mk0{o:Oper}(w:World)(ho:o.op= .makeSlice 50 (.const (.int .i64 0)) x)(hx:a.eval x= .int .i64 33):(execOp a.eval o).run Tryz.prog w= .ok (.value (.slice (some ⟨w.heap.size,0,none⟩) 0 33)) (w.alloc (.cells (madeCells #[Value.int .u8 0] 33) 5)):=by obtain ⟨i0,hi,hz0,hz1,hz2⟩:=info_parts info_u8;have h:=run_make (P:=Tryz.prog) w 50 5 i0 (.int .u8 0) Tryz.underlying50 hi hz0 .i64 .i64 0 33 (by decide) (by decide) (by rw[hz2];decide) (by decide);rw[hz1] at h;simp only[execOp,ho,hx,Sem.run_bind];rw[show a.eval (.const (.int .i64 0))= .int .i64 0 from rfl,h];rfl
theorem fb64_any(r:List UInt8)(h32:r.length=32)(w:World):Calls Tryz.prog 218 #[.string (str (b64 r))] w fun e w'=> e= .returned (.tuple #[.string (str r),.nilIface])∧Ext w w':=by
 obtain ⟨i0,hi0,hz0,hz1,hz2⟩:=info_parts info_u8;have hlen:(b64 r).length=44:=by rw[b64_len,h32]
 have HAT:=ZA (b64_lt r h32);have HPD:=ZA (b64_pad r h32);have H32:=ZA h32;have HI0:=ZA (And.intro hi0 (And.intro hz0 hz1));generalize b64 r=s at*;have hsz:(str s).size=s.length:=str_size s;have hs44:(s.length:Int)=44:=by rw[hlen];rfl
 have HLN:=ZA hlen;have hq:((44:Int).tdiv 4)=11:=by decide
 clear h32 hlen;go_enter Tryz.func218,Tryz.ntmps218;go_wp2_with (refine wpList_run rfl (exec_mk0 w rfl rfl) ?_);obtain ⟨W,hW⟩:∃W,W=w.alloc (.cells (madeCells #[Value.int .u8 0] 33) 5):=⟨_,rfl⟩;have HX0:Hid (Ext w W):=ZA (hW▸(Upd.refl none' w).alloc _);have HO0:Hid (W.ownsRow w.heap.size 5 1 (.slice (some ⟨w.heap.size,0,none⟩) 0 33) 0 []):=ZA (hW▸World.ownsRow_made w _ 33 (Nat.le_refl _) (by decide) (by simp[madeCells]));rw[←hW];clear hW;go_loopw [4,5,6,7,8] (fun ov bv pv dv iv wr=> FbRel w r ov bv pv dv iv wr) (fun _ _ _ _ iv _=> 44 - (RowKit.intOf iv).toNat);case atStart=> exact ⟨0,0,[],by omega,rfl,rfl,fun h=> absurd rfl h,by omega,rfl,rfl,rfl,HO0.o,HX0.o⟩
 case round=>
  obtain ⟨i,bt,xs,hi,rfl,rfl,hbt,hb24,rfl,rfl,hxs,hown,hu⟩:=hrel;obtain ⟨oA,oc,rfl⟩:=own_sl hown;have HO:=ZA hown;have HU:=ZA hu;have HXS:=ZA hxs;have HXL:Hid (xs.length≤32):=ZA (by rw[hxs,List.length_take,H32.o];exact Nat.min_le_right _ _);have hand:=and3i i (by omega);clear hown hu hxs;by_cases hlt:i < 44
  ·have hlti:(i:Int) < s.length:=by omega
   have hne44:¬i=44:=by omega
   have HLTS:=ZA (show i < s.length by have:=HLN.o;omega);have hwi:IntKind.i64.wrap ((i:Int)+1)=((i+1:Nat):Int):=(IntWalk.i64_in _ (by omega)).trans (by omega);simp only[hne44,if_false,decide_false];have hli44:(i:Int) < 44:=by omega
   obtain ⟨k,hk⟩:∃k,k=i % 4:=⟨_,rfl⟩;rw[←hk] at hand hbt;have HK:=ZA hk;by_cases h43:i < 43
   ·have hat:=HAT.o i h43;have hv:=ltN_lt r i;have hbs:=bits_step r i;have hbl:=bits_last r i;have hbd:=bits_lt r i;have hbd1:=bits_lt r (i+1);have hgl:=gD_lt r (i / 4);obtain ⟨v,hvd⟩:∃v,v=ltN r i:=⟨_,rfl⟩;rw[←hvd] at hat hv hbs hbl;have HV:Hid (u8v (s.getD i 0)=u8v (lt64 v)):=ZA (by rw[List.getD_eq_getElem?_getD,hat];rfl);have CI:=idx_any (lt64 v) wr;rw[idx_lt v hv] at CI;have hv0:¬(v:Int) < 0:=by omega
    have hv1:(0:Int)≤v:=by omega
    have HVV:=ZA hv;have hp0:¬(0:Int) < ((0:Nat):Int):=by decide
    rw[←hk] at hbs hbl;rcases (show k=0∨(k=1∨k=2)∨k=3 by omega) with rfl | hk12 | rfl
    ·have HB:=ZA (hbs (by omega));have hor:=or6i 0 v (by decide) hv;have HBD:=ZA hbd1;clear hbs hbl hbd hbd1 hgl hvd hv hat hbt hb24 hk;simp only[if_true,Nat.zero_mul,Nat.zero_add] at HB hor;go_wp2_with (refine wpList_runG rfl (run_val (run_strIx _ rfl s i .i64 rfl rfl HLTS.o Tryz.underlying9) HV.o) ?_);refine CI.mono ?_;rintro e w1 ⟨rfl,rfl⟩;clear CI;go_wp2_with (refine wpList_run rfl (run_bop _ rfl (.int .i64 ((0:Nat):Int)) (.int .i64 v) (.int .i64 v) rfl rfl (run_orI .i64 _ _ _ hor _)) ?_);exact fb_next h43 (by rw[HXS.o,if_neg hne44,show (i+1) / 4=i / 4 by have:=HK.o;omega]) (fun _=> HB.o.symm) (by have:=HVV.o;omega) HO.o HU.o
    ·have HB:=ZA (hbs (by omega));obtain rfl:=hbt (by omega);have hor:=or6i (bitsN r i) v hbd hv;have HBD:=ZA hbd1;rw[if_neg (by omega)] at HB;have HBE:=ZA HB.o;generalize bitsN r i=bt at*;have hk0:((k:Int)==0)=false:=by rw[beq_eq_false_iff_ne];omega
     have hk3:((k:Int)==3)=false:=by rw[beq_eq_false_iff_ne];omega
     have hk0':¬k=0:=by omega
     have hk3':¬k=3:=by omega
     obtain ⟨m,hm⟩:∃m,m=bt*64:=⟨_,rfl⟩;have hshl:IntKind.i64.wrap ((bt:Int)*64)=(m:Int):=(IntWalk.i64_in _ (by omega)).trans (by omega);rw[←hm] at hor HBE;clear hbs hbl hbd hbd1 hgl hvd hv hat hb24 hk HB hk12 hm;go_wp2_with (refine wpList_runG rfl (run_val (run_strIx _ rfl s i .i64 rfl rfl HLTS.o Tryz.underlying9) HV.o) ?_);refine CI.mono ?_;rintro e w1 ⟨rfl,rfl⟩;clear CI;go_wp2_with (refine wpList_run rfl (run_bop _ rfl (.int .i64 ((m:Nat):Int)) (.int .i64 v) (.int .i64 (m+v:Nat)) rfl rfl (run_orI .i64 _ _ _ hor _)) ?_);exact fb_next h43 (by rw[HXS.o,if_neg hne44,show (i+1) / 4=i / 4 by have:=HK.o;omega]) (fun _=> HBE.o.symm) (by rw[←HBE.o];exact HBD.o) HO.o HU.o
    ·obtain rfl:=hbt (by omega);have hor:=or6i (bitsN r i) v hbd hv;rw[hbl rfl] at hor;have HRE:Hid (r.take (3*(i / 4)+3)=r.take (3*(i / 4))++ [r.getD (3*(i / 4)) 0,r.getD (3*(i / 4)+1) 0,r.getD (3*(i / 4)+2) 0]):=ZA (take3 r (i / 4) (by rw[H32.o];omega));obtain ⟨hg1,hg2,hg3⟩:=gD_bytes r (i / 4);generalize r.getD (3*(i / 4)) 0=a at*;generalize r.getD (3*(i / 4)+1) 0=b at*;generalize r.getD (3*(i / 4)+2) 0=c at*;generalize gD r (i / 4)=G at*;generalize bitsN r i=bt at*;have ha:=a.toNat_lt;have hb:=b.toNat_lt;have hc:=c.toNat_lt;have hc1:IntKind.u8.wrap ((G:Int) / 65536)=(a.toNat:Int):=by rw[IntKind.wrap_u8'];omega
     have hc2:IntKind.u8.wrap ((G:Int) / 256)=(b.toNat:Int):=by rw[IntKind.wrap_u8'];omega
     have hc3:IntKind.u8.wrap (G:Int)=(c.toNat:Int):=by rw[IntKind.wrap_u8'];omega
     obtain ⟨m,hm⟩:∃m,m=bt*64:=⟨_,rfl⟩;have hshl:IntKind.i64.wrap ((bt:Int)*64)=(m:Int):=(IntWalk.i64_in _ (by omega)).trans (by omega);rw[←hm] at hor;have HGL:=ZA hgl;have HU3:=ZA ((Upd.refl none' wr).alloc (.cells #[u8v a,u8v b,u8v c] 5));have HO3:=ZA (ownsRow_upd HO.o HU3.o (fun _ _=> id));have HCN:Hid (CellsAt (wr.alloc (.cells #[u8v a,u8v b,u8v c] 5)) (some ⟨wr.heap.size,0,none⟩) [u8v a,u8v b,u8v c]):=ZA (CellsAt.new wr [u8v a,u8v b,u8v c] 5);have HO1:Hid (∀u∈([u8v a,u8v b,u8v c]:List Value),u.oneCell'=true):=ZA (by intro u hu;simp only[List.mem_cons,List.not_mem_nil,or_false] at hu;rcases hu with rfl | rfl | rfl <;> rfl)
     have HLM:Hid (xs.length+3≤maxLen∧(xs.length+3)*1≤140737488355328):=ZA (by unfold maxLen;have:=HXL.o;omega);have HBW:Hid (w.heap.size≤(wr.alloc (.cells #[u8v a,u8v b,u8v c] 5)).heap.size):=ZA (Nat.le_trans HU.o.size HU3.o.size);clear hbs hbl hbd hbd1 hgl hvd hv hat hb24 hk hm hg1 hg2 hg3 ha hb hc;go_wp2_with (refine wpList_runG rfl (run_val (run_strIx _ rfl s i .i64 rfl rfl HLTS.o Tryz.underlying9) HV.o) ?_);refine CI.mono ?_;rintro e w1 ⟨rfl,rfl⟩;clear CI;go_wp2_with (first
      | (refine wpList_run rfl (run_bop _ rfl (.int .i64 ((m:Nat):Int)) (.int .i64 v) (.int .i64 (G:Nat)) rfl rfl (run_orI .i64 _ _ _ hor _)) ?_)
      | (refine wpList_run rfl (exec_bs _ [(0,.tmp 106),(1,.tmp 109),(2,.tmp 111)] rfl [(0,u8v a),(1,u8v b),(2,u8v c)] _ rfl (run_threeB _ 50 5 i0 Tryz.underlying50 hi0 hz0 hz1 _ _ _)) ?_)
      | (at_builtin;(refine wpList_appX rfl _ _ 50 rfl w.heap.size 5 i0 _ 1 1 Tryz.underlying50 hi0 hz0 hz1 hz2 rfl (by decide) (.slice oA xs.length oc) xs.length _ rfl HO3.o (some ⟨wr.heap.size,0,none⟩) 3 3 [u8v a,u8v b,u8v c] rfl rfl HCN.o HO1.o HLM.o.1 HLM.o.2 HBW.o ?_)))
     intro A7 c7 w7 hown7 hgrow7 _;have HU7:Hid (Ext w w7):=ZA ((HU.o.trans HU3.o).grown hgrow7 (fun g hg=> .inl (HO3.o.lt g hg).1));have HO7:=ZA hown7;clear hown7 hgrow7;go_wp2_with fail;refine fb_next (xs:=xs++ [a,b,c]) h43 ?_ (fun h=> absurd (show (i+1) % 4=0 by have:=HK.o;omega) h) HGL.o (by rw[List.length_append,List.map_append];exact HO7.o) HU7.o;rw[show (i+1) / 4=i / 4+1 by have:=HK.o;omega,Nat.mul_succ,HRE.o,HXS.o,if_neg hne44]
   ·obtain rfl:i=43:=by omega
    obtain rfl:k=3:=by omega
    obtain rfl:=hbt (by decide);obtain ⟨hp4,hp1,hp2⟩:=bits_pad r H32.o;have hbd:=bits_lt r 43;have HRE:=ZA (take2 r H32.o);have HV:Hid (u8v (s.getD 43 0)= .int .u8 61):=ZA (by rw[List.getD_eq_getElem?_getD,HPD.o];rfl);have CI:=idx_any 61 wr;rw[idx_pad] at CI;generalize r.getD 30 0=a at*;generalize r.getD 31 0=b at*;generalize bitsN r 43=bt at*;have ha:=a.toNat_lt;have hb:=b.toNat_lt;have hc1:IntKind.u8.wrap ((bt:Int) / 1024)=(a.toNat:Int):=by rw[IntKind.wrap_u8'];omega
    have hc2:IntKind.u8.wrap ((bt:Int) / 4)=(b.toNat:Int):=by rw[IntKind.wrap_u8'];omega
    have HBD:=ZA hbd;have hz:bits .and .i64 (bt:Int) 3=0:=by rw[and3i bt hbd,hp4];rfl
    have HU3:=ZA ((Upd.refl none' wr).alloc (.cells #[u8v a,u8v b] 5));have HO3:=ZA (ownsRow_upd HO.o HU3.o (fun _ _=> id));have HCN:Hid (CellsAt (wr.alloc (.cells #[u8v a,u8v b] 5)) (some ⟨wr.heap.size,0,none⟩) [u8v a,u8v b]):=ZA (CellsAt.new wr [u8v a,u8v b] 5);have HO1:Hid (∀u∈([u8v a,u8v b]:List Value),u.oneCell'=true):=ZA (by intro u hu;simp only[List.mem_cons,List.not_mem_nil,or_false] at hu;rcases hu with rfl | rfl <;> rfl)
    have HLM:Hid (xs.length+2≤maxLen∧(xs.length+2)*1≤140737488355328):=ZA (by unfold maxLen;have:=HXL.o;omega);have HBW:Hid (w.heap.size≤(wr.alloc (.cells #[u8v a,u8v b] 5)).heap.size):=ZA (Nat.le_trans HU.o.size HU3.o.size);clear hbd hp4 hp1 hp2 ha hb hbt hb24 hk h43 hlt;go_wp2_with (refine wpList_runG rfl (run_val (run_strIx _ rfl s 43 .i64 rfl rfl HLTS.o Tryz.underlying9) HV.o) ?_);refine CI.mono ?_;rintro e w1 ⟨rfl,rfl⟩;clear CI;go_wp2_with (first
     | (refine wpList_runG rfl (run_val (run_strIx _ rfl s 43 .i64 rfl rfl HLTS.o Tryz.underlying9) HV.o) ?_)
     | (refine wpList_run rfl (run_bop _ rfl (.int .i64 bt) (.int .i64 3) (.int .i64 0) rfl rfl (run_andI .i64 _ _ _ hz _)) ?_)
     | (refine wpList_run rfl (exec_bs _ [(0,.tmp 85),(1,.tmp 88)] rfl [(0,u8v a),(1,u8v b)] _ rfl (run_two _ 50 5 i0 Tryz.underlying50 hi0 hz0 hz1 _ _)) ?_)
     | (at_builtin;(refine wpList_appX rfl _ _ 50 rfl w.heap.size 5 i0 _ 1 1 Tryz.underlying50 hi0 hz0 hz1 hz2 rfl (by decide) (.slice oA xs.length oc) xs.length _ rfl HO3.o (some ⟨wr.heap.size,0,none⟩) 2 2 [u8v a,u8v b] rfl rfl HCN.o HO1.o HLM.o.1 HLM.o.2 HBW.o ?_)))
    intro A7 c7 w7 hown7 hgrow7 _;have HU7:Hid (Ext w w7):=ZA ((HU.o.trans HU3.o).grown hgrow7 (fun g hg=> .inl (HO3.o.lt g hg).1));have HO7:=ZA hown7;clear hown7 hgrow7;go_wp2_with fail;refine ⟨⟨44,bt,xs++ [a,b],by decide,rfl,rfl,fun h=> absurd rfl h,HBD.o,rfl,rfl,?_,by rw[List.length_append,List.map_append];exact HO7.o,HU7.o⟩,by decide⟩;rw[if_pos rfl,HRE.o,HXS.o,if_neg (by decide)]
  ·obtain rfl:i=44:=by omega
   have hlti:¬(44:Int) < s.length:=by omega
   have h44:bits .and .i64 (44:Int) 3=0:=by decide+kernel
   have hr:xs=r:=by rw[HXS.o,if_pos rfl,List.take_of_length_le (by rw[H32.o];decide)]
   subst hr;clear hbt hb24 hi hlt hand;go_wp2_with (first
    | (refine wpList_run rfl (run_bop _ rfl (.int .i64 44) (.int .i64 3) (.int .i64 0) rfl rfl (run_andI .i64 _ _ _ h44 _)) ?_)
    | (refine wpList_run rfl (run_convB _ rfl _ xs rfl HO.o) ?_))
   go_ret2;exact ⟨rfl,HU.o⟩
end Go.Proofs.YtjnjpgdoncbahaaGreatDoor
