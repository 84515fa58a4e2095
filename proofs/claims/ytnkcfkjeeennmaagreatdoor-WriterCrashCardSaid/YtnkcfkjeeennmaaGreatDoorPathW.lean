/- tile.may, tile.Path by contracts. tile.Encode by contract. What Append puts: plain law. What stays behind each leaf, and behind each tile, that Append puts: plain lemmas. The tree over any number of leaves, split as the document says; it is what a writer's edges fold to: plain mathematics. -/
import Derived.Test.YtnkcfkjeeennmaaGreatDoorTileP
import Derived.Test.YtnkcfkjeeennmaaGreatDoorDec
import Derived.Test.YtnkcfkjeeennmaaGreatDoorCtz
import Derived.Test.YtnkcfkjeeennmaaGreatDoorIntOps
import Derived.Test.YtnkcfkjeeennmaaGreatDoorHRow
import Derived.Test.YtnkcfkjeeennmaaGreatDoorShaD
import Derived.Test.YtnkcfkjeeennmaaGreatDoorGrPl
import Derived.Test.YtnkcfkjeeennmaaGreatDoorGrowP
namespace Go.Proofs.YtnkcfkjeeennmaaGreatDoor
open Go.RowKit Go.Lib
set_option maxRecDepth 20000
set_option maxHeartbeats 8000000
variable {G:GrP}{T t:TypeId}{ended:Bool}
section
variable {P:Program}
theorem run_copyStrR(w:World)(dT sT ty e:TypeId)(i:TypeInfo)(hu:P.underlying dT=some (.slice e))(hi:P.info? e=some i)(hs:i.size=1)(g off n c:Nat)(s:List UInt8)(cs:List Value)(te:TypeId)
 (hg:w.heap[g]? =some (.cells cs.toArray te (0,0))) (hle:s.length≤n) (hfit:off+s.length≤cs.length):
 (Builtin.copy_ #[dT,sT] ty #[.slice (some ⟨g,off,none⟩) n c,.string (str s)]).run P w= .ok (goInt s.length) (w.setRow g (over cs off (s.map u8v)).toArray):=by
 have hst:=run_storeCells_at P g off te (s.map u8v) 0 cs.toArray w hg (by simp;omega) (u8_ones s);simp only[Nat.add_zero] at hst;have hmin:Nat.min s.length n=s.length:=Nat.min_eq_left hle;have hsz:(str s).size=s.length:=str_size s;simp[Builtin.copy_,run_underlying hu,Builtin.lenOf,Builtin.firstCells,sizeOf,typeInfo,hi,hs,hmin,hsz];rw[List.take_of_length_le (by simp)];simp only[List.length_map] at hst;rw[hst];simp[over,Result.andThen]
theorem wpList_copyStrR{w:World}{ops:Array Oper}{rest:List Oper}{o:Oper}{a:Act}{Q:Exit→Act→World→Prop}(hgd:o.guard=none)(d x:Operand)(dT sT:TypeId)
 (ho:o.op= .call {callee:= .builtin .copy,args:=#[d,x],argTypes:=#[dT,sT]}) (e:TypeId) (i:TypeInfo) (hu:P.underlying dT=some (.slice e)) (hi:P.info? e=some i) (hs:i.size=1) (g off n c:Nat) (s:List UInt8) (cs:List Value) (te:TypeId)
 (hd:a.eval d= .slice (some ⟨g,off,none⟩) n c) (hx:a.eval x= .string (str s)) (hg:w.heap[g]? =some (.cells cs.toArray te (0,0))) (hle:s.length≤n) (hfit:off+s.length≤cs.length)
 (h:wpList P ops Q rest (a.put o.dst (goInt s.length)) (w.setRow g (over cs off (s.map u8v)).toArray)):wpList P ops Q (o::rest) a w:=by
 refine wpList_plain hgd fun K hK=> ?_;have hr:=run_copyStrR (P:=P) w dT sT o.type e i hu hi hs g off n c s cs te hg hle hfit;unfold Oper.wp execOp;simp only[ho,resolve,invoke,builtin,Sem.run_bind,Sem.run_pure,Result.andThen_ok,List.map_toArray,List.map_cons,List.map_nil,hd,hx,hr];exact hK _ _ h
end
theorem str3{w:World}{g off:Nat}{l:List UInt8}{c:Nat}(hc:∀i (h:i < l.length),w.cell? ⟨g,off+i,none⟩=some (u8v l[i])):
 (convert 165 9 (.slice (some ⟨g,off,none⟩) l.length c)).run Tryz.prog w= .ok (.string (str l)) w:=by
 have e:=run_convert_bytes_arg (P:=Tryz.prog) w 165 5 Tryz.underlying165 Tryz.underlying5 g off l.length c (l.map fun c=> (c.toNat:Int)) (by simp) (fun i hi=> by rw[hc i hi];simp[hi]) 9 Tryz.underlying9
 rw[e,strOfNums_str]
theorem exec_conv{P:Program}{o:Oper}{a:Act}(w:World){u:TypeId}{x:Operand}(ho:o.op= .convert t u x)(v r:Value)(hx:a.eval x=v)(hr:(convert t u v).run P w= .ok r w):(execOp a.eval o).run P w= .ok (.value r) w:=by simp only[execOp,ho,hx,Sem.run_bind,hr,Result.andThen_ok];rfl
theorem run_sl3{P:Program}{o:Oper}{a:Act}(w:World){e:TypeId}{x h3 m3:Operand}(ho:o.op= .slice t x none (some h3) (some m3))(g off n c:Nat)(hx:a.eval x= .slice (some ⟨g,off,none⟩) n c)(hh:a.eval h3= .int .i64 3)(hm:a.eval m3= .int .i64 3)(hc:3≤c)(hu:P.underlying t=some (.slice e))(hs:(P.info? e).map (·.size)=some 1):
 (execOp a.eval o).run P w= .ok (.value (.slice (some ⟨g,off,none⟩) 3 3)) w:=by
 cases hq:P.info? e with
 | none=> simp[hq] at hs
 | some i=>
  have his:i.size=1:=by simpa[hq] using hs
  have hc2:(3:Int)≤c:=by omega
  simp[execOp,ho,hx,hh,hm,Instr.sliceAt,Instr.slice,Instr.sliceBounds,Instr.sliceBound,run_underlying hu,asIntOf,sizeOf,typeInfo,hq,his,hc2,hc,Addr.add_lit]
theorem dec_pos(u:Nat):1≤(Lib.decDigits u).length:=by rw[Lib.decDigits_length];exact nDigits_pos u
theorem u8_size:(Tryz.prog.info? 5).map (·.size)=some 1:=by kernel_rfl
def slLen:Value→Nat
 | .slice _ n _=> n
 | _=> 0
def FlRel(g N:Nat)(w:World)(iv:Value)(wr:World):Prop:=
 ∃(j:Nat) (R:List Value),iv= .int .i64 j∧j≤N∧R.length=N - j∧wr.heap[g]? =some (.cells ((List.replicate j (48:UInt8)).map u8v++R).toArray 5 (0,0))∧Upd (one g) w wr
def GrRel(g:Nat)(P:List UInt8)(tot:List UInt8)(w5:World)(sv tv:Value)(wr:World):Prop:=
 ∃(off:Nat) (pre:List UInt8),off≤P.length∧sv= .slice (some ⟨g,off,none⟩) (P.length - off) (P.length - off)∧tv= .string (str pre)∧pre++grp (P.drop off)=tot∧pre.length≤60+2*off∧wr=w5
abbrev tileV(k i wd:Nat):Value:= .agg #[.int .u8 k,.int .u64 i,.int .i64 wd]
theorem tmay_any(w:World)(k i wd:Nat)(hk:k≤2)(hi:i≤65536)(h1:1≤wd)(h2:wd≤256):
 Calls Tryz.prog 102 #[tileV k i wd] w fun e w'=> e= .returned (.bool true)∧Ext w w':=by
 have a1:¬(7:Int) < k:=by omega
 have a2:¬(wd:Int) < 1:=by omega
 have a3:¬(256:Int) < wd:=by omega
 have a4:¬(36028797018963968:Int)≤i:=by omega
 have a5:IntKind.u64.wrap (wd:Int)=wd:=by rw[IntKind.wrap_u64];omega
 have hk3:k=0∨k=1∨k=2:=by omega
 rcases hk3 with rfl | rfl | rfl;all_goals
  go_enter Tryz.func102,Tryz.ntmps102;go_wp2_with fail;go_ret;exact ⟨congrArg (fun b=> Ending.returned (.bool b)) (decide_eq_true (by omega)),(Upd.refl none' w).alloc _⟩
theorem path_any(w:World)(k i wd:Nat)(hk:k≤2)(hi:i≤65536)(h1:1≤wd)(h2:wd≤256)(T:Tab10 w):
 Calls Tryz.prog 49 #[tileV k i wd] w fun e w'=> e= .returned (.tuple #[.string (str (pathB k i wd)),.nilIface])∧Ext w w':=by
 obtain ⟨i0,hi0,hz0,hz1,hz2⟩:=info_parts info_u8;have X0:=(Upd.refl none' w).alloc (.cells #[.int .u8 k,.int .u64 i,.int .i64 wd] 115);have HQ:=ZA (blk_alloc w (.cells #[.int .u8 k,.int .u64 i,.int .i64 wd] 115));have HX:=ZA X0;have HT:=ZA (T.ext X0);have HT0:=ZA T;have C:=tmay_any (w.alloc (.cells #[.int .u8 k,.int .u64 i,.int .i64 wd] 115)) k i wd hk hi h1 h2;have HKI:=ZA (⟨hk,hi,h1,h2⟩:k≤2∧i≤65536∧1≤wd∧wd≤256);clear X0 T hk hi h1 h2;go_enter Tryz.func49,Tryz.ntmps49;go_wp2_with fail;refine C.mono ?_;rintro e w1 ⟨rfl,hx1⟩;have HX1:=ZA (HX.o.trans hx1);have HQ1:=ZA (Ext.blk hx1 HQ.o);have HT1:=ZA (HT.o.ext hx1);have d1:w1.cell? ⟨w.heap.size,1,none⟩=some (.int .u64 i):=cell_of_blk HQ1.o 1;have CD:=decimal_any i (by have:=HKI.o.2.1;omega) w1 HT1.o;clear hx1 C;go_wp2_with fail;refine CD.mono ?_;rintro e w2 ⟨rfl,hx2⟩;have HX2:=ZA (HX1.o.trans hx2);have HQ2:=ZA (Ext.blk hx2 HQ1.o);have HT2:=ZA (HT1.o.ext hx2);have hdl:=dec_len i (by have:=HKI.o.2.1;omega);have HD1:=ZA (dec_pos i);have HPB:=ZA (show pathB k i wd=tileB++Lib.decDigits k++ [47]++grp (pad3 (Lib.decDigits i))++(if wd < 256 then [46,112,47]++Lib.decDigits wd else []) from rfl);generalize Lib.decDigits i=D at*;obtain ⟨N,hN⟩:∃N:Nat,N=(D.length+2) / 3*3:=⟨_,rfl⟩;have hNi:((D.length:Int)+2) / 3*3=(N:Nat):=by omega
 have hN24:N≤24:=by omega
 have hDN:D.length≤N:=by omega
 have HNE:=ZA hN;have HNM:=ZA (show i0.bytes*N≤281474976710656∧N≤maxLen by rw[hz2];unfold maxLen;omega);clear hN hx2 CD d1;go_wp2_with (at_make;refine wpList_make_full _ rfl _ _ 165 rfl w.heap.size 5 i0 _ 1 Tryz.underlying165 hi0 hz0 hz1 .i64 .i64 _ _ N rfl rfl rfl rfl HNM.o.1 HNM.o.2 HX2.o.size ?_);intro w3 hown hgrow;have hblk:∃R:List Value,R.length=N∧w3.heap[w2.heap.size]? =some (.cells R.toArray 5 (0,0)):=by
  rcases hown.2 with ⟨hv,_⟩ | ⟨g,cap,cur,hv,hb,hg,hnc,hcm,hcs,ht⟩
  ·cases hv
  ·simp only[Value.slice.injEq,Option.some.injEq,Addr.mk.injEq,and_true,true_and] at hv;obtain ⟨rfl,_,rfl⟩:=hv;obtain ⟨cl⟩:=cur;exact ⟨cl,by simpa using hcs,hg⟩
 obtain ⟨R,hR,hblk⟩:=hblk;have HBK:=ZA hblk;have HR:=ZA hR;have HG2:=ZA HX2.o.size;have HX23:=ZA ((Upd.refl none' w2).grown hgrow (fun k hk=> by cases hk));have HX3:=ZA (HX2.o.trans HX23.o);have HQ3:=ZA (Ext.blk HX23.o HQ2.o);have HQG:=ZA (show w.heap.size < w2.heap.size from lt_of_blk HQ2.o);have HT3:=ZA (HT2.o.ext HX23.o);clear hown hgrow hblk hR;generalize w2.heap.size=g at*;go_wp2_with fail;go_loopw [23] (fun iv wr=> FlRel g N w3 iv wr) (fun iv _=> N - (RowKit.intOf iv).toNat);case atStart=> exact ⟨0,R,rfl,Nat.zero_le _,by rw[HR.o];rfl,HBK.o,Upd.refl _ _⟩
 case round=>
  obtain ⟨j,R2,rfl,hj,hr2,hb,u⟩:=hrel;have HU:=ZA u;have HB:=ZA hb;have HR2:=ZA hr2;clear u hb hr2;by_cases hlt:j < N
  ·have hlti:(j:Int) < N:=by omega
   obtain ⟨v0,R3,rfl⟩:∃v0 R3,R2=v0::R3:=by
    cases R2 with
    | nil=> have:=HR2.o;simp at this;omega
    | cons a b=> exact ⟨a,b,rfl⟩
   have hl48:((List.replicate j (48:UInt8)).map u8v).length=j:=by simp
   have f0:=free_of_blk HB.o j;have c0:wr.cell? ⟨g,j,none⟩=some v0:=by rw[cell_of_blk HB.o,List.getElem?_toArray,List.getElem?_append_right (by omega),hl48,Nat.sub_self];rfl
   have HB3:Hid ((wr.setCell ⟨g,j,none⟩ (.int .u8 48)).heap[g]? =some (.cells ((List.replicate (j+1) (48:UInt8)).map u8v++R3).toArray 5 (0,0))):=ZA (by
    rw[blk_set HB.o j (.int .u8 48)];have e:((List.replicate j (48:UInt8)).map u8v++v0::R3).set j (.int .u8 48)=(List.replicate (j+1) (48:UInt8)).map u8v++R3:=by rw[List.set_append_right _ _ (by omega),hl48,Nat.sub_self,List.replicate_succ',List.map_append];simp
    rw[←e];simp)
   have HU3:=ZA (HU.o.setCell (p:=⟨g,j,none⟩) (.inr rfl) (.int .u8 48));clear hl48 hj hlt;go_wp2_with fail;have hlt2:j < N:=by omega
   have hr:=HR2.o;simp only[List.length_cons] at hr;exact ⟨⟨j+1,R3,rfl,by omega,by omega,HB3.o,HU3.o⟩,by simp[RowKit.intOf];omega⟩
  ·have hjN:j=N:=by omega
   have hlti:¬(j:Int) < N:=by omega
   subst hjN;have hR0:R2= []:=List.eq_nil_of_length_eq_zero (by have:=HR2.o;omega);subst hR0;clear hlt hj;have hdl1:1≤D.length:=HD1.o;have hsub:(j:Int) - D.length=((j - D.length:Nat):Int):=by omega
   have HSU:=ZA (show IntKind.i64.wrap ((j:Int) - D.length)=((j - D.length:Nat):Int) by rw[hsub];exact IntWalk.i64_in _ (by omega));have HLO:=ZA (show j - D.length≤j by omega);have HCL:=ZA (show D.length≤j - (j - D.length) by omega);have HFT:=ZA (show j - D.length+D.length≤((List.replicate j (48:UInt8)).map u8v++ []).length by simp;omega);have HLE:=ZA (show (if j=j - D.length then some ⟨g,0,none⟩ else (some (⟨g,0,none⟩:Addr)).map (·.add ((j - D.length)*1)))=some ⟨g,j - D.length,none⟩ by rw[if_neg (by omega)];simp only[Option.map_some,Addr.add_lit,Nat.zero_add,Nat.mul_one]);have HOV:Hid (over ((List.replicate j (48:UInt8)).map u8v++ []) (j - D.length) (D.map u8v)=(pad3 D).map u8v):=ZA (by
    have h1:=HNE.o;unfold over pad3;have e1:j - D.length=(3 - D.length % 3) % 3:=by omega
    rw[List.append_nil,List.length_map,show j - D.length+D.length=j by omega,List.drop_of_length_le (by simp),List.append_nil,List.map_append,e1,←List.map_take,List.take_replicate,Nat.min_eq_left (by omega)])
   have HQR:=ZA (HU.o.blk HQ3.o (fun e=> by have e2:w.heap.size=g:=e;have:=HQG.o;omega));have HQ4:=ZA (blk_setRow_ne HQR.o (show w.heap.size≠g by have:=HQG.o;omega) ((pad3 D).map u8v).toArray);have HB4:=ZA (blk_setRow HB.o ((pad3 D).map u8v).toArray);have HU4:=ZA (HU.o.setRow (g:=g) (.inr rfl) ((pad3 D).map u8v).toArray);have HX4:=ZA (HX3.o.then HU4.o (fun b hb e=> by have e2:b=g:=e;have:=HG2.o;omega));have HT4:=ZA (HT0.o.ext HX4.o);have e0:(wr.setRow g ((pad3 D).map u8v).toArray).cell? ⟨w.heap.size,0,none⟩=some (.int .u8 k):=cell_of_blk HQ4.o 0;have CD:=decimal_any k (by have:=HKI.o.1;omega) (wr.setRow g ((pad3 D).map u8v).toArray) HT4.o;have hk64:IntKind.u64.wrap (k:Int)=k:=by rw[IntKind.wrap_u64];have:=HKI.o.1;omega
   clear hsub;go_wp2_with (first
    | (refine wpList_run rfl (run_bop _ rfl (.int .i64 j) (.int .i64 D.length) (.int .i64 ((j - D.length:Nat):Int)) rfl rfl (run_subI .i64 j D.length _ HSU.o _)) ?_)
    | (refine wpList_run rfl (run_val (run_slLo _ rfl (some ⟨g,0,none⟩) j j (j - D.length) 1 5 rfl rfl HLO.o Tryz.underlying165 u8_size) (by rw[HLE.o])) ?_)
    | (refine wpList_copyStrR rfl _ _ 165 9 rfl 5 i0 Tryz.underlying165 hi0 hz1 g (j - D.length) (j - (j - D.length)) (j - (j - D.length)) D _ 5 rfl rfl HB.o HCL.o HFT.o ?_;rw[HOV.o]))
   generalize wr.setRow g ((pad3 D).map u8v).toArray=W4 at*;refine CD.mono ?_;rintro e w5 ⟨rfl,hx5⟩;have HX5:=ZA (HX4.o.trans hx5);have HQ5:=ZA (Ext.blk hx5 HQ4.o);have HB5:=ZA (Ext.blk hx5 HB4.o);have HT5:=ZA (HT4.o.ext hx5);have hkl:=dec_len k (by have:=HKI.o.1;omega);clear hx5 CD e0;have HPL:=ZA (pad3_len D);have HPE:=ZA (show (pad3 D).length=j by rw[pad3_len];exact HNE.o.symm);generalize hK:Lib.decDigits k=K at*;have hl1:¬9223372036854775807 < 5+K.length:=by omega
   have hl2:¬9223372036854775807 < 5+K.length+1:=by omega
   have HKL:=ZA hkl;clear hK;generalize hPD:pad3 D=PD at*;have HST:=ZA (show (⟨#[116,105,108,101,47]⟩++str K++⟨#[47]⟩:ByteArray)=str (tileB++K++ [47]) by apply ByteArray.ext;simp[tileB])
   clear hPD;go_wp2_with fail;rw[HST.o];go_loopw [5,7] (fun sv tv wr=> GrRel g PD (tileB++K++ [47]++grp PD) w5 sv tv wr) (fun sv _ _=> slLen sv);case atStart=> exact ⟨0,tileB++K++ [47],Nat.zero_le _,by rw[HPE.o];rfl,rfl,rfl,by have:=HKL.o;simp[tileB];omega,rfl⟩
   case round=>
    obtain ⟨off,pre,hoff,rfl,rfl,hpre,hpl,hw⟩:=hrel;subst hw;have HPRE:=ZA hpre;have hpj:=HPE.o;obtain ⟨n,hn⟩:∃n,n=PD.length - off:=⟨_,rfl⟩;have hrl:(PD.drop off).length=n:=by rw[List.length_drop,hn]
    have HCC:=ZA (show∀i (h:i < (PD.drop off).length),wr.cell? ⟨g,off+i,none⟩=some (u8v (PD.drop off)[i]) from fun i h=> by
     rw[cell_of_blk HB5.o];have:off+i < PD.length:=by rw[List.length_drop] at h;omega
     simp[this])
    rw[←hn];have HN:=ZA hn;have HOF:=ZA hoff;have HPL2:=ZA hpl;have HRL:=ZA hrl;by_cases h3:3 < n
    ·have h3i:(3:Int) < n:=by omega
     obtain ⟨T3,hT3⟩:∃T3,T3=(PD.drop off).take 3:=⟨_,rfl⟩;have hT3l:T3.length=3:=by rw[hT3,List.length_take,hrl];omega
     have HCV:Hid ((convert 165 9 (.slice (some ⟨g,off,none⟩) 3 3)).run Tryz.prog wr= .ok (.string (str T3)) wr):=ZA (by
      have h:=str3 (w:=wr) (g:=g) (off:=off) (l:=T3) (c:=3) (fun i h=> by
       have h2:i < (PD.drop off).length:=by rw[hrl];omega
       rw[HCC.o i h2];simp[hT3])
      rwa [hT3l] at h)
     have hx1:¬9223372036854775807 < 1+T3.length:=by omega
     have hx2:¬9223372036854775807 < 1+T3.length+1:=by omega
     have hx3:¬9223372036854775807 < pre.length+(1+T3.length+1):=by omega
     have HNX:=ZA (show (pre++ [120]++T3++ [47])++grp (PD.drop (off+3))=tileB++K++ [47]++grp PD by rw[←HPRE.o,grp_step (PD.drop off) (by rw[hrl];omega),←hT3,List.drop_drop];simp)
     have HLE:=ZA (show (if n=3 then some ⟨g,off,none⟩ else (some (⟨g,off,none⟩:Addr)).map (·.add (3*1)))=some ⟨g,off+3,none⟩ by rw[if_neg (by omega)];simp only[Option.map_some,Addr.add_lit]);have HN3:=ZA (show 3≤n by omega);have HSS:=ZA (show (str pre++(⟨#[120]⟩++str T3++⟨#[47]⟩):ByteArray)=str (pre++ [120]++T3++ [47]) by apply ByteArray.ext;simp)
     have HT3:=ZA hT3l;clear hn hoff hpl hrl h3 hT3 hT3l hpj hpre;go_wp2_with (first
      | (refine wpList_run rfl (run_sl3 _ rfl g off n n rfl rfl rfl HN3.o Tryz.underlying165 u8_size) ?_)
      | (refine wpList_run rfl (exec_conv _ rfl (.slice (some ⟨g,off,none⟩) 3 3) _ rfl HCV.o) ?_)
      | (refine wpList_run rfl (run_val (run_slLo _ rfl (some ⟨g,off,none⟩) n n 3 1 5 rfl rfl HN3.o Tryz.underlying165 u8_size) (by rw[HLE.o])) ?_))
     refine ⟨⟨_,_,_,_,_,_,_,_,_,_,_,_,_,_,?_,rfl⟩,?_⟩
     ·rw[HSS.o];exact ⟨off+3,pre++ [120]++T3++ [47],by have:=HN.o;have:=HOF.o;omega,by rw[show PD.length - (off+3)=n - 3 by have:=HN.o;omega],rfl,HNX.o,by have:=HPL2.o;have:=HT3.o;simp;omega,rfl⟩
     ·simp[slLen];have:=HN3.o;omega
    ·have h3i:¬(3:Int) < n:=by omega
     have HCV:Hid ((convert 165 9 (.slice (some ⟨g,off,none⟩) n n)).run Tryz.prog wr= .ok (.string (str (PD.drop off))) wr):=ZA (by have h:=str3 (w:=wr) (g:=g) (off:=off) (l:=PD.drop off) (c:=n) HCC.o;rwa [hrl] at h)
     have HNX:=ZA (show pre++PD.drop off=tileB++K++ [47]++grp PD by rw[←HPRE.o,grp_small (PD.drop off) (by rw[hrl];omega)])
     have hx3:¬9223372036854775807 < pre.length+(PD.drop off).length:=by omega
     generalize PD.drop off=rest at*;have HSS:=ZA (show (str pre++str rest:ByteArray)=str (tileB++K++ [47]++grp PD) by rw[←HNX.o];apply ByteArray.ext;simp)
     have HTL:=ZA (show (tileB++K++ [47]++grp PD).length≤200 by have h1:=congrArg List.length HNX.o;rw[List.length_append] at h1;rw[←h1];omega)
     clear hn hoff hpl h3 hpre hpj hrl;have q2:wr.cell? ⟨w.heap.size,2,none⟩=some (.int .i64 wd):=cell_of_blk HQ5.o 2;have HWD:=ZA (fun (_:Unit)=> HKI.o.2.2.2);by_cases hw:wd < 256
     ·have hwi:(wd:Int) < 256:=by omega
      have hw64:IntKind.u64.wrap (wd:Int)=wd:=by rw[IntKind.wrap_u64];omega
      have CW:=decimal_any wd (by omega) wr HT5.o;have hwl:=dec_len wd (by omega);have HF:=ZA (show tileB++K++ [47]++grp PD++([46,112,47]++Lib.decDigits wd)=pathB k i wd by rw[HPB.o,if_pos hw]);generalize Lib.decDigits wd=W at*;have hpl6:pre.length+rest.length≤200:=by have h1:=congrArg List.length HNX.o;rw[List.length_append] at h1;rw[h1];exact HTL.o
      have hx4:¬9223372036854775807 < 3+W.length:=by omega
      have hx5:¬9223372036854775807 < pre.length+rest.length+(3+W.length):=by omega
      have HSS2:=ZA (show (str pre++str rest++(⟨#[46,112,47]⟩++str W):ByteArray)=str (pathB k i wd) by rw[←HF.o,←HNX.o];apply ByteArray.ext;simp)
      clear hw;go_wp2_with (refine wpList_run rfl (exec_conv _ rfl (.slice (some ⟨g,off,none⟩) n n) _ rfl HCV.o) ?_);refine CW.mono ?_;rintro e w6 ⟨rfl,hx6⟩;have HX6:=ZA (HX5.o.trans hx6);clear hx6 CW;go_wp2_with fail;go_ret2;exact ⟨by rw[←HSS2.o];rfl,HX6.o⟩
     ·have hwi:¬(wd:Int) < 256:=by omega
      have HF:=ZA (show tileB++K++ [47]++grp PD=pathB k i wd by rw[HPB.o,if_neg hw,List.append_nil]);clear hw;go_wp2_with (refine wpList_run rfl (exec_conv _ rfl (.slice (some ⟨g,off,none⟩) n n) _ rfl HCV.o) ?_);go_ret2;exact ⟨by rw[←HF.o,←HSS.o];rfl,HX5.o⟩
theorem SB.ext{B b:Nat}{bs:List UInt8}{w w':World}(h:SB B b bs w)(u:Ext w w'):SB B b bs w':=by
 rcases h with ⟨h1,v,h2,h3,h4⟩ | ⟨h1,v,h2,h3,h4⟩
 ·exact .inl ⟨h1,v,Ext.blk u h2,ownsRow_upd h3 u (fun _ _=> id),h4⟩
 ·exact .inr ⟨h1,v,Ext.blk u h2,ownsRow_upd h3 u (fun _ _=> id),h4⟩
def EnRel(B b:Nat)(l:List HB)(w0:World)(iv:Value)(wr:World):Prop:=
 ∃j:Nat,j≤l.length∧iv= .int .i64 j∧SB B b ((l.take j).flatten) wr∧Below B w0 wr
theorem flat_len{l:List HB}(h:H32 l):l.flatten.length=l.length*32:=by
 induction l with
 | nil=> rfl
 | cons a l ih=>
  rw[List.flatten_cons,List.length_append,ih (fun x hx=> h x (List.mem_cons_of_mem _ hx)),h a (List.mem_cons_self ..),List.length_cons];omega
theorem encode_any(w:World)(g o:Nat)(l:List HB)(cap:Nat)(h32:H32 l)(hA:CellsAt w (some ⟨g,o,none⟩) (hcells l))(h1:1≤l.length)(h2:l.length≤256):
 Calls Tryz.prog 50 #[.slice (some ⟨g,o,none⟩) l.length cap] w fun e w'=> e= .returned (.tuple #[.string (str l.flatten),.nilIface])∧Ext w w':=by
 have a1:¬(l.length:Int) < 1:=by omega
 have a2:¬(256:Int) < l.length:=by omega
 have HB:=ZA (sb_fresh w);have HW:=ZA (((Upd.refl none' w).alloc (.cells #[.pointer none,.slice none 0 0] 183)));have HWB:=ZA (blk_alloc w (.cells #[.pointer none,.slice none 0 0] 183));have HA:=ZA hA;have H32':=ZA h32;have HL:=ZA h2;clear hA h32 h1 h2;go_enter Tryz.func50,Tryz.ntmps50;go_wp2_with fail;have HAW:=ZA (HA.o.ext HW.o);have HGL:=ZA (fun (hl:0 < l.length)=> (show g < w.heap.size by
  have h3:=H32'.o.getD 0 hl;have h:=hash_at HA.o H32'.o 0 hl;generalize l.getD 0 []=y at h h3;have hy:(y.map u8v)[0]? =some (u8v (y[0]'(by omega))):=by simp[h3]
  exact lt_of_cell (h 0 _ hy)))
 generalize World.alloc w (.cells #[.pointer none,.slice none 0 0] 183)=W at*;go_loopw [18] (fun iv wr=> EnRel w.heap.size w.heap.size l W iv wr) (fun iv _=> l.length - (RowKit.intOf iv).toNat);case atStart=> exact ⟨0,Nat.zero_le _,rfl,HB.o,Below.refl _ _⟩
 case round=>
  obtain ⟨j,hj,rfl,hsb,hbl⟩:=hrel;have HSB:=ZA hsb;have HBL:=ZA hbl;clear hsb hbl;by_cases hlt:j < l.length
  ·have hji:(j:Int) < l.length:=by omega
   have hg:=HGL.o (by omega);have HJ:=ZA hlt;have HC:=ZA (show∀i v,((l.getD j []).map u8v)[i]? =some v→wr.cell? ⟨g,o+j*32+i,none⟩=some v from fun i v hv=> by have h:=hash_at HAW.o H32'.o j hlt i v hv;rw[World.cell?_of_block (HBL.o.block _ hg)];exact h)
   have HX32:=ZA (H32'.o.getD j hlt);have HTK:=ZA (show (l.take (j+1)).flatten=(l.take j).flatten++l.getD j [] by rw[List.take_succ_eq_append_getElem hlt,List.flatten_append];simp[List.getD_eq_getElem?_getD,List.getElem?_eq_getElem hlt])
   have HOL:=ZA (show ((l.take j).flatten).length≤8192 by rw[flat_len (H32'.o.take j),List.length_take];have:=HL.o;omega)
   generalize l.getD j []=x at*;have HSZ:=ZA (hash_size32 x HX32.o);have HO1:=ZA (u8_ones x);have HZL:=ZA (show zero32.size=(x.map u8v).length by rw[List.length_map,HX32.o];rfl);clear hlt hg;go_wp2_with (first
    | (refine wpList_loadAgg rfl 30 _ rfl g (o+j*32) rfl (x.map u8v) Tryz.underlying30 rfl HSZ.o HC.o ?_)
    | (refine store_new rfl 30 _ _ rfl _ _ rfl (x.map u8v) rfl HSZ.o HZL.o HO1.o ?_))
   have C:=wrows_any w.heap.size w.heap.size (((l.take j).flatten).map u8v) (some ⟨wr.heap.size,0,none⟩) 32 32 (x.map u8v) (wr.alloc (.cells (x.map u8v).toArray 30)) (SB.ext HSB.o ((Upd.refl none' wr).alloc _)) (CellsAt.new wr _ _) (fun ad e=> by obtain rfl:=Option.some.inj e;have h1:=HBL.o.size;have h2:=lt_of_blk HWB.o;show wr.heap.size≠w.heap.size;omega) (by rw[List.length_map,HX32.o]) HO1.o (by rw[List.length_map];have:=HOL.o;omega) (by have h1:=HBL.o.size;have h2:=lt_of_blk HWB.o;simp;omega)
   refine C.mono ?_;rintro e w5 ⟨rfl,hb5,hbl5⟩;have HF:Hid (SB w.heap.size w.heap.size ((l.take (j+1)).flatten) w5):=ZA (by rw[HTK.o];exact .inr (by rw[List.map_append];exact hb5))
   have HBF:=ZA ((HBL.o.trans (Ext.below ((Upd.refl none' wr).alloc (.cells (x.map u8v).toArray 30)) (by have h1:=HBL.o.size;have h2:=lt_of_blk HWB.o;omega))).trans hbl5);clear hb5 hbl5 C;go_wp2_with fail;exact ⟨⟨j+1,by have:=HJ.o;omega,rfl,HF.o,HBF.o⟩,by have:=HJ.o;simp[RowKit.intOf];omega⟩
  ·have hjl:j=l.length:=by omega
   have hji:¬(j:Int) < l.length:=by omega
   have HSB2:Hid (SB w.heap.size w.heap.size l.flatten wr):=ZA (by have:=HSB.o;rwa [hjl,List.take_of_length_le (Nat.le_refl _)] at this)
   clear hj hlt hjl;have C:=Tryz.Builder_String_any w.heap.size w.heap.size l.flatten wr HSB2.o (by have h1:=HBL.o.size;have h2:=lt_of_blk HWB.o;omega);go_wp2_with fail;refine C.mono ?_;rintro e w9 ⟨rfl,hbl9⟩;have HF:=ZA (Ext.of_below ((Ext.below HW.o (Nat.le_refl _)).trans (HBL.o.trans hbl9)));clear hbl9 C;go_wp2_with fail;go_ret2;exact ⟨rfl,HF.o⟩
def LOk(G:GrP):Prop:=∀k,∀t∈G.ls.getD k [],t.1=k∧t.2.1≤65536∧t.2.2.1=256∧t.2.2.2.length=256∧H32 t.2.2.2
theorem pushP_lok{M k i:Nat}{x:HB}(h:LOk G)(ho:okP M G)(hx:x.length=32)(hi:i≤16777216):LOk (pushP k x i G):=by
 have hl:k < (padL G.ls (k+1) []).length:=by rw[padL_len];omega
 unfold pushP;simp only[padL_getD];split
 ·rename_i h256;intro j t ht;have ht:t∈((padL G.ls (k+1) []).set k (G.ls.getD k []++ [(k,i / 256,256,G.es.getD k []++ [x])])).getD j []:=ht;rw[getD_put _ _ _ _ _ hl,padL_getD] at ht;by_cases hj:j=k
  ·rw[if_pos hj] at ht;subst hj;rcases List.mem_append.1 ht with h1 | h1
   ·exact h j t h1
   ·rw[List.mem_singleton.1 h1];exact ⟨rfl,by show i / 256≤65536;omega,rfl,by show (G.es.getD j []++ [x]).length=256;rw[List.length_append,List.length_singleton];exact h256,H32.app (ho.h j).2 (H32.cons hx H32.nil)⟩
  ·rw[if_neg hj] at ht;exact h j t ht
 ·intro j t ht;have ht:t∈(padL G.ls (k+1) []).getD j []:=ht;rw[padL_getD] at ht;exact h j t ht
theorem pushes_lok{M n:Nat}{l:List HB}{y:HB}{G:GrP}(h:LOk G)(ho:okP M G)(hl:H32 l)(hy:y.length=32)(hn:n≤16777216):∀m,(∀k,k < m→8*k≤l.length)→m≤64→LOk (pushes n l y G m)
 | 0,_,_=> h
 | m+1,hm,hm2=> by rw[pushes_succ];exact pushP_lok (pushes_lok h ho hl hy hn m (fun k hk=> hm k (by omega)) (by omega)) (pushes_ok ho hl hy m (fun k hk=> hm k (by omega)) (by omega)) (cr_len32 hl hy _ (hm m (by omega))) (Nat.le_trans (Nat.div_le_self _ _) hn)
theorem addP_lok{n M:Nat}(h:GInv n M G)(hL:LOk G)(hn:n < 1048576){y:HB}(hy:y.length=32):LOk (addP n y G):=by have hs:=step_main nodeH G.es n y h.f;have h20:=ones_20 hn;exact pushes_lok hL h.k (peaksE_32 _ h.h) hy (by omega) _ (fun k hk=> by have:=hs.1;omega) (by omega)
theorem addsP_lok:∀(ys:List HB) {n M:Nat} {G:GrP},GInv n M G→LOk G→n+ys.length≤1048576→H32 ys→LOk (addsP n ys G)
 | [],_,_,_,_,h,_,_=> h
 | y::ys,n,M,G,h,hL,hn,hy=> addsP_lok ys (h.add (by simp at hn;omega) (hy y (by simp))) (addP_lok h hL (by simp at hn;omega) (hy y (by simp))) (by simp at hn;omega) (fun z hz=> hy z (by simp[hz]))
structure TOk (t:LaidP):Prop where
 k:t.1≤2
 i:t.2.1≤65536
 w1:1≤t.2.2.1
 w2:t.2.2.1≤256
 l:t.2.2.2.length=t.2.2.1
 h:H32 t.2.2.2
theorem tiles_ok{n M:Nat}(h:GInv n M G)(hL:LOk G)(hn:n≤16777216):∀t∈tilesP n G G.ts.length,TOk t:=fun t ht=> by
 unfold tilesP at ht;obtain ⟨l,hl,ht2⟩:=List.mem_flatten.1 ht;obtain ⟨k,hk,rfl⟩:=List.mem_map.1 hl;have hk3:k≤2:=by have:=List.mem_range.1 hk;have:=h.t8;omega
 unfold tileK at ht2;rcases List.mem_append.1 ht2 with h1 | h1
 ·obtain ⟨a,b,c,d,e⟩:=hL k t h1;exact ⟨by omega,b,by omega,by omega,by omega,e⟩
 ·split at h1
  ·rename_i hc;rw[List.mem_singleton.1 h1];have h256:=(h.k.h k).1;refine ⟨hk3,?_,?_,?_,rfl,(h.k.h k).2⟩
   ·show n / 2 ^ (8*k) / 256≤65536;have:=Nat.div_le_self n (2 ^ (8*k));omega
   ·show 1≤(G.es.getD k []).length;have:=hc.2;omega
   ·show (G.es.getD k []).length≤256;omega
  ·cases h1
def leafN(k:Nat):ByteArray:=str leafB++str (Lib.decDigits k)
def leafPuts(n:Nat)(ls:List (List UInt8)):List (ByteArray×ByteArray):=(List.range ls.length).map (fun i=> (leafN (n+i),str (ls.getD i [])))
def tileT(t:LaidP):ByteArray×ByteArray:=(str (pathB t.1 t.2.1 t.2.2.1),str t.2.2.2.flatten)
def putsL(r:StD×EV)(ps:List (ByteArray×ByteArray)):StD×EV:=ps.foldl putP r
theorem putsL_snoc(r:StD×EV)(ps:List (ByteArray×ByteArray))(p:ByteArray×ByteArray):putsL r (ps++ [p])=putP (putsL r ps) p:=by unfold putsL;rw[List.foldl_append];rfl
theorem putsL_grow:∀(ps:List (ByteArray×ByteArray)) (r:StD×EV),(putsL r ps).1.nw≤r.1.nw+ps.length∧(putsL r ps).1.texts.length≤r.1.texts.length+ps.length
 | [],r=> ⟨Nat.le_refl _,Nat.le_refl _⟩
 | p::ps,r=> by have h1:=putP_grow r p;have h2:=putsL_grow ps (putP r p);show (putsL (putP r p) ps).1.nw≤_∧(putsL (putP r p) ps).1.texts.length≤_;rw[List.length_cons];omega
theorem leafPuts_snoc(n:Nat)(ls:List (List UInt8))(s:List UInt8):leafPuts n (ls++ [s])=leafPuts n ls++ [(leafN (n+ls.length),str s)]:=by
 unfold leafPuts;rw[List.length_append,List.length_singleton,List.range_succ,List.map_append];congr 1
 ·refine List.map_congr_left fun i hi=> ?_;have:=List.mem_range.1 hi;rw[List.getD_eq_getElem?_getD,List.getD_eq_getElem?_getD,List.getElem?_append_left this]
 ·simp[List.getD_eq_getElem?_getD]
theorem leafPuts_len(n:Nat)(ls:List (List UInt8)):(leafPuts n ls).length=ls.length:=by simp[leafPuts]
def leafHs(ls:List (List UInt8)):List HB:=ls.map leafH
theorem leafHs_32(ls:List (List UInt8)):H32 (leafHs ls):=fun h hh=> by obtain ⟨s,_,rfl⟩:=List.mem_map.1 hh;exact shaB_len _
theorem leafN_size(k:Nat)(hk:k < 18446744073709551616):(leafN k).size≤25:=by
 have h:=dec_len k hk;show (str leafB++str (Lib.decDigits k)).size≤25;rw[ByteArray.size_append,str_size,str_size];have:leafB.length=5:=by rfl
 omega
def appG(n:Nat)(es:List (List HB))(ls:List (List UInt8)):GrP:=addsP n (leafHs ls) (gr0 es)
theorem leafHs_len(ls:List (List UInt8)):(leafHs ls).length=ls.length:=by simp[leafHs]
theorem appG_inv{n:Nat}{es:List (List HB)}{ls:List (List UInt8)}(hf:fitsP n es)(h32:E32 es)(hn:n+ls.length≤1048576):GInv (n+ls.length) (3*ls.length) (appG n es ls):=by have h:=GInv.adds (leafHs ls) (GInv.start hf h32 (by have:=fits_3 hf (by omega);omega)) (by rw[leafHs_len];exact hn) (leafHs_32 ls);rw[leafHs_len,Nat.zero_add] at h;exact h
theorem appG_lok{n:Nat}{es:List (List HB)}{ls:List (List UInt8)}(hf:fitsP n es)(h32:E32 es)(hn:n+ls.length≤1048576):LOk (appG n es ls):=
 addsP_lok (leafHs ls) (GInv.start hf h32 (by have:=fits_3 hf (by omega);omega)) (fun k t ht=> by simp[gr0] at ht) (by rw[leafHs_len];exact hn) (leafHs_32 ls)
structure LfAt (B2 gb q a wb b mb bb n:Nat) (se:Nat→Addr) (tv:Value) (x:StD) (o:List UInt8) (root:HB) (ev:Value) (es:List (List HB)) (ls:List (List UInt8)) (W8:World) (j:Nat) (V:GrV) (D:GrD) (wr:World):Prop where
 cl:ClAt wr q a wb b mb se tv o n root ev (putsL (x,none) (leafPuts n (ls.take j)))
 gr:GrAt B2 wr gb V D
 p:D.p=appG n es (ls.take j)
 n:D.n=n+j
 l:D.l=peaksE nodeH D.es
 bb:V.bb=bb
 u:Upd (fun g=> g=b∨g=mb∨B2≤g) W8 wr
structure LowAt (B2 q a wb b mb:Nat) (tv:Value):Prop where
 a:a < B2
 wb:wb < B2
 b:b < B2
 mb:mb < B2
 tv:∀g,tv.ownBlock=some g→g < B2
 q:B2≤q
theorem GrD.p_es(D:GrD):D.p.es=D.es:=rfl
section
variable {B2 gb q a wb b mb bb n:Nat} {se:Nat→Addr} {tv:Value} {x:StD} {o:List UInt8} {root:HB} {ev:Value} {es:List (List HB)} {ls:List (List UInt8)} {W8 wr:World} {j:Nat} {V:GrV} {D:GrD}
theorem LfAt.inv(h:LfAt B2 gb q a wb b mb bb n se tv x o root ev es ls W8 j V D wr)(hf:fitsP n es)(h32:E32 es)(hj:j≤ls.length)(hn:n+ls.length≤1048576):GInv D.n (3*j) D.p:=by have h1:=appG_inv (ls:=ls.take j) hf h32 (by rw[List.length_take];omega);rw[List.length_take,Nat.min_eq_left hj] at h1;rw[h.p,h.n];exact h1
theorem LfAt.inv32(h:LfAt B2 gb q a wb b mb bb n se tv x o root ev es ls W8 j V D wr)(hf:fitsP n es)(h32:E32 es)(hj:j≤ls.length)(hn:n+ls.length≤1048576):H32 D.l∧ones D.n≤D.l.length∧D.l.length≤64:=by
 have hi:=h.inv hf h32 hj hn;have he:=D.p_es;refine ⟨?_,?_,?_⟩
 ·rw[h.l];exact peaksE_32 _ hi.h
 ·have:=hi.ones;rw[he] at this;rwa [h.l]
 ·have h1:=peaksE_len D.es;have h2:=fits_3 hi.f (by have:=h.n;omega);have h3:D.es.length≤3:=h2;rw[h.l];omega
theorem frame_q{cs:Array Value}{f:Nat×Nat}(L:LowAt B2 q a wb b mb tv){w:World}(hq:w.heap[q]? =some (.cells cs T f))(hT:T∉grTys):∀g,B2≤g→g < w.heap.size→three b mb q g→∃c T f,T∉grTys∧w.heap[g]? =some (.cells c T f):=fun g hB _ hg=> by
 rcases hg with e | e | e
 ·have:=L.b;omega
 ·have:=L.mb;omega
 ·rw[e];exact ⟨_,_,_,hT,hq⟩
theorem errT:38∉grTys:=by decide
theorem ClAt.keeps{w w':World}{r:StD×EV}(L:LowAt B2 q a wb b mb tv)(h:ClAt w q a wb b mb se tv o n root ev r)(u:Upd (fun g=> B2≤g) w w')(k:KeepsG w w'):ClAt w' q a wb b mb se tv o n root ev r:=
 ⟨k _ errT _ _ _ h.ok,u.blk h.box (by have:=L.a;show¬B2≤a;omega),h.wr.upd u (by have:=L.wb;show¬B2≤wb;omega),h.st.upd u (by have:=L.b;show¬B2≤b;omega) (by have:=L.mb;show¬B2≤mb;omega) (fun g hg=> by have:=L.tv g hg;show¬B2≤g;omega)⟩
theorem LfAt.next{w5 w6 w7:World}{s:List UInt8}{V':GrV}{D':GrD}(L:LowAt B2 q a wb b mb tv)(h:LfAt B2 gb q a wb b mb bb n se tv x o root ev es ls W8 j V D wr)(hf:fitsP n es)(h32:E32 es)(hj:j < ls.length)(hn:n+ls.length≤1048576)(hs:s=ls.getD j [])
 (h5:ClAt w5 q a wb b mb se tv o n root ev (putP (putsL (x,none) (leafPuts n (ls.take j))) (leafN (n+j),str s))) (u5:Upd (three b mb q) wr w5) (u6:Ext w5 w6)
 (hg:GrAt B2 w7 gb V' D') (hp:D'.p=pushes D.n D.l (leafH s) D.p (ones D.n / 8+1)) (hn':D'.n=D.n+1) (hl':D'.l=D.l.take (D.l.length - ones D.n)++ [cr nodeH D.l (ones D.n) (leafH s)]) (hbb:V'.bb=V.bb) (u7:Upd (fun g=> B2≤g) w6 w7) (k7:KeepsG w6 w7):
 LfAt B2 gb q a wb b mb bb n se tv x o root ev es ls W8 (j+1) V' D' w7:=by
 have hi:=h.inv hf h32 (by omega) hn;have htk:ls.take (j+1)=ls.take j++ [s]:=by rw[List.take_succ_eq_append_getElem hj,hs,List.getD_eq_getElem?_getD,List.getElem?_eq_getElem hj];rfl
 have hlt:(ls.take j).length=j:=by rw[List.length_take];omega
 have hp2:D'.p=addP D.n (leafH s) D.p:=by rw[hp,h.l];rfl
 refine ⟨?_,hg,?_,by rw[hn',h.n];omega,?_,by rw[hbb,h.bb],?_⟩
 ·rw[htk,leafPuts_snoc,putsL_snoc,hlt];exact (h5.ext u6).keeps L u7 k7
 ·rw[htk];unfold appG;rw[show leafHs (ls.take j++ [s])=leafHs (ls.take j)++ [leafH s] by simp[leafHs],addsP_snoc,leafHs_len,hlt,hp2,h.n,h.p];rfl
 ·have hs2:=step_main nodeH D.p.es D.n (leafH s) hi.f;have he:D'.es=stepE nodeH D.es (leafH s):=by have:=congrArg GrP.es hp2;rw[addP_es D.n (leafH s) D.p hi.f] at this;exact this
  rw[he,hl',h.l];exact hs2.2.1.symm
 ·refine h.u.trans ((u5.mono (fun g _ hg=> ?_)).trans (((Upd.ext u6 _)).trans (u7.mono (fun g _ hg=> .inr (.inr hg)))));rcases hg with e | e | e
  ·exact .inl e
  ·exact .inr (.inl e)
  ·exact .inr (.inr (by rw[e];exact L.q))
end
structure TlAt (B2 gb q a wb b mb n:Nat) (se:Nat→Addr) (tv:Value) (r1:StD×EV) (o:List UInt8) (root:HB) (ev:Value) (W8:World) (V:GrV) (D:GrD) (v:Value) (out:List LaidD) (k:Nat) (wr:World):Prop where
 cl:ClAt wr q a wb b mb se tv o n root ev (putsL r1 ((out.take k).map (fun x=> tileT x.p)))
 gr:GrAt B2 wr gb V D
 tl:wr.ownsRow B2 117 4 v out.length (laidCs out)
 hs:∀x∈out,wr.ownsRow B2 30 32 x.v x.hs.length (hcells x.hs)
 u:Upd (fun g=> g=b∨g=mb∨B2≤g) W8 wr
section
variable {B2 gb q a wb b mb n:Nat} {se:Nat→Addr} {tv:Value} {r1:StD×EV} {o:List UInt8} {root:HB} {ev:Value} {W8 wr:World} {k:Nat} {V:GrV} {D:GrD} {v:Value} {out:List LaidD}
theorem TlAt.ext{w':World}(h:TlAt B2 gb q a wb b mb n se tv r1 o root ev W8 V D v out k wr)(u:Ext wr w'):TlAt B2 gb q a wb b mb n se tv r1 o root ev W8 V D v out k w':=
 ⟨h.cl.ext u,h.gr.ext u,ownsRow_upd h.tl u (fun _ _=> id),fun x hx=> ownsRow_upd (h.hs x hx) u (fun _ _=> id),h.u.trans (Upd.ext u _)⟩
theorem TlAt.next{w5:World}{d:LaidD}(L:LowAt B2 q a wb b mb tv)(h:TlAt B2 gb q a wb b mb n se tv r1 o root ev W8 V D v out k wr)(hk:out[k]? =some d)
 (h5:ClAt w5 q a wb b mb se tv o n root ev (putP (putsL r1 ((out.take k).map (fun x=> tileT x.p))) (tileT d.p))) (u5:Upd (three b mb q) wr w5):TlAt B2 gb q a wb b mb n se tv r1 o root ev W8 V D v out (k+1) w5:=by
 obtain ⟨hlt,hd⟩:=List.getElem?_eq_some_iff.1 hk;have hq:=h.cl.ok;have row:∀{e size m:Nat} {v:Value} {xs:List Value},wr.ownsRow B2 e size v m xs→e≠38→w5.ownsRow B2 e size v m xs:=fun hr he=>
  ownsRow_upd hr u5 (fun g hg hs=> by
   rcases hs with e | e | e
   ·have h1:=(hr.lt g hg).1;have:=L.b;omega
   ·have h1:=(hr.lt g hg).1;have:=L.mb;omega
   ·exact rowNe hr hq he g hg e)
 refine ⟨?_,h.gr.frame u5 (frame_q L hq errT),row h.tl (by decide),fun x hx=> row (h.hs x hx) (by decide),h.u.trans (u5.mono (fun g _ hg=> ?_))⟩
 ·rw[List.take_succ_eq_append_getElem hlt,List.map_append,List.map_cons,List.map_nil,putsL_snoc,hd];exact h5
 ·rcases hg with e | e | e
  ·exact .inl e
  ·exact .inr (.inl e)
  ·exact .inr (.inr (by rw[e];exact L.q))
end
theorem laidCs_get:∀{out:List LaidD} {k:Nat} {d:LaidD},out[k]? =some d→∀(i:Nat) (v:Value),(laidC d)[i]? =some v→(laidCs out)[k*4+i]? =some v
 | [],k,d,h,_,_,_=> by simp at h
 | a::l,0,d,h,i,v,hv=> by
  have e:a=d:=by simpa using h
  subst e;show ((laidC a)++laidCs l)[0*4+i]? =some v;rw[Nat.zero_mul,Nat.zero_add,List.getElem?_append_left (List.getElem?_eq_some_iff.1 hv).1];exact hv
 | a::l,k+1,d,h,i,v,hv=> by show ((laidC a)++laidCs l)[(k+1)*4+i]? =some v;have hl:(laidC a).length=4:=rfl;rw[show (k+1)*4+i=4+(k*4+i) by omega,List.getElem?_append_right (by omega),hl,show 4+(k*4+i) - 4=k*4+i by omega];exact laidCs_get (by simpa using h) i v hv
theorem tilesP_len{M n:Nat}{G:GrP}(h:∀k,(G.ls.getD k []).length≤M):∀T,(tilesP n G T).length≤T*(M+1)
 | 0=> by simp[tilesP]
 | T+1=> by
  have h1:=tilesP_len (n:=n) h T;have h2:(tileK n G T).length≤M+1:=by unfold tileK;rw[List.length_append];refine Nat.add_le_add (h T) ?_;split <;> simp
  unfold tilesP at h1⊢;rw[List.range_succ,List.map_append,List.flatten_append,List.length_append];simp only[List.map_cons,List.map_nil,List.flatten_cons,List.flatten_nil,List.append_nil];rw[Nat.succ_mul];omega
theorem grpF_len:∀(n:Nat) (l:List UInt8),(grpF n l).length≤3*l.length
 | 0,l=> by unfold grpF;omega
 | n+1,l=> by
  unfold grpF;split
  ·omega
  ·have h:=grpF_len n (l.drop 3);rw[List.length_drop] at h;simp only[List.length_cons,List.length_append,List.length_take];omega
theorem pathB_len(k i w:Nat)(hk:k≤65536)(hi:i≤65536)(hw:w≤65536):(pathB k i w).length≤200:=by
 have h1:=dec_len k (by omega);have h2:=dec_len i (by omega);have h3:=dec_len w (by omega);have h4:=grpF_len (pad3 (Go.Lib.decDigits i)).length (pad3 (Go.Lib.decDigits i));have h5:(pad3 (Go.Lib.decDigits i)).length≤(Go.Lib.decDigits i).length+2:=by unfold pad3;rw[List.length_append,List.length_replicate];omega
 have h6:(if w < 256 then [46,112,47]++Go.Lib.decDigits w else ([]:List UInt8)).length≤23:=by
  split
  ·simp only[List.length_append,List.length_cons,List.length_nil];omega
  ·simp
 have h7:tileB.length≤5:=by decide
 unfold pathB grp;simp only[List.length_append,List.length_cons,List.length_nil] at h6⊢;omega
theorem foldP_len{l:List HB}(h:H32 l):(foldP l).length=32:=by
 unfold foldP;split
 ·exact emptyH_len
 ·rename_i h0;have hl:0 < l.length:=by
   cases l with
   | nil=> exact absurd rfl h0
   | cons a t=> simp
  exact cr_len32 (fun x hx=> h x (List.mem_of_mem_take hx)) (h.getD _ (by omega)) _ (by rw[List.length_take];omega)
theorem putsL_append(r:StD×EV)(a b:List (ByteArray×ByteArray)):putsL r (a++b)=putsL (putsL r a) b:=by unfold putsL;rw[List.foldl_append]
abbrev zckA:Array Value:=#[.string ⟨#[]⟩,.int .u64 0,.int .u8 0,.int .u8 0,.int .u8 0,.int .u8 0,.int .u8 0,.int .u8 0,.int .u8 0,.int .u8 0,.int .u8 0,.int .u8 0,.int .u8 0,.int .u8 0,.int .u8 0,.int .u8 0,.int .u8 0,.int .u8 0,.int .u8 0,.int .u8 0,.int .u8 0,.int .u8 0,.int .u8 0,.int .u8 0,.int .u8 0,.int .u8 0,.int .u8 0,.int .u8 0,.int .u8 0,.int .u8 0,.int .u8 0,.int .u8 0,.int .u8 0,.int .u8 0,.slice none 0 0]
theorem zck_zero:(Tryz.prog.info? 32).bind (·.zero)=some (.agg zckA):=by kernel_rfl
def PZ(m:Nat)(v:Value)(w:World):Prop:=∃g,m≤g∧v= .pointer (some ⟨g,0,none⟩)∧w.heap[g]? =some (.cells zckA 32 (0,0))
theorem pz_lasts(m:Nat):Lasts (PZ m):=fun v w w' ⟨g,h0,h1,h2⟩ u=> ⟨g,h0,h1,Ext.blk u h2⟩
theorem wr_put(sp:Value)(C:List Value)(u v:Value)(hC:C.length=35)(v':Value):(sp::(C++ [u,v])).toArray.setIfInBounds 37 v'=(sp::(C++ [u,v'])).toArray∧(sp::(C++ [u,v])).toArray.setIfInBounds 36 v'=(sp::(C++ [v',v])).toArray:=by
 constructor
 ·rw[List.setIfInBounds_toArray,show (37:Nat)=36+1 from rfl,List.set_cons_succ,List.set_append_right _ _ (by omega),hC];rfl
 ·rw[List.setIfInBounds_toArray,show (36:Nat)=35+1 from rfl,List.set_cons_succ,List.set_append_right _ _ (by omega),hC];rfl
theorem wr_over(sp:Value)(C C':List Value)(u v:Value)(hC:C.length=35)(hC':C'.length=35):over (sp::(C++ [u,v])) 1 C'=sp::(C'++ [u,v]):=by unfold over;rw[show (1:Nat)=0+1 from rfl,List.take_succ_cons,List.take_zero,show 0+1+C'.length=C'.length+1 by omega,List.drop_succ_cons,hC',List.drop_left' hC];simp
theorem WrAt.ends{w:World}{wb:Nat}{sp:Value}{o:List UInt8}{n:Nat}{root:HB}{ev:Value}(h:WrAt w wb sp o n root ev ended)(hr:root.length=32):WrAt (w.setCell ⟨wb,37,none⟩ (.bool true)) wb sp o n root ev true:=
 ⟨by have:=blk_set h.blk 37 (.bool true);unfold wrC at this⊢;rwa [(wr_put sp (ckC o n root) ev (.bool ended) (ck_len o n root hr) (.bool true)).1] at this⟩
theorem WrAt.setCk{w:World}{wb:Nat}{sp:Value}{o:List UInt8}{n:Nat}{root:HB}{ev:Value}(h:WrAt w wb sp o n root ev ended)(hr:root.length=32)(o':List UInt8)(n':Nat)(root':HB)(hr':root'.length=32):WrAt (w.setRow wb (over (wrC sp o n root ev ended) 1 (ckC o' n' root')).toArray) wb sp o' n' root' ev ended:=
 ⟨by have:=blk_setRow h.blk (over (wrC sp o n root ev ended) 1 (ckC o' n' root')).toArray;rw[show over (wrC sp o n root ev ended) 1 (ckC o' n' root')=wrC sp o' n' root' ev ended from wr_over sp _ _ ev (.bool ended) (ck_len o n root hr) (ck_len o' n' root' hr')] at this⊢;exact this⟩
theorem WrAt.setEv{w:World}{wb:Nat}{sp:Value}{o:List UInt8}{n:Nat}{root:HB}{ev:Value}(h:WrAt w wb sp o n root ev ended)(hr:root.length=32)(ev':Value):WrAt (w.setCell ⟨wb,36,none⟩ ev') wb sp o n root ev' ended:=
 ⟨by have:=blk_set h.blk 36 ev';unfold wrC at this⊢;rwa [(wr_put sp (ckC o n root) ev (.bool ended) (ck_len o n root hr) ev').2] at this⟩
theorem run_storeAggAt{P:Program}{o:Oper}{a:Act}{w:World}(ty:TypeId)(x y:Operand)(ho:o.op= .store ty x y)(g off:Nat)(hx:a.eval x= .pointer (some ⟨g,off,none⟩))(vs:List Value)(hy:a.eval y= .agg vs.toArray)(hs:(P.info? ty).map (·.size)=some vs.length)
 (cs:List Value) (t:TypeId) (hg:w.heap[g]? =some (.cells cs.toArray t (0,0))) (hfit:off+vs.length≤cs.length) (h1:∀u∈vs,u.oneCell'=true):(execOp a.eval o).run P w= .ok .skip (w.setRow g (over cs off vs).toArray):=by
 have hst:=run_storeCells_at P g off t vs 0 cs.toArray w hg (by simpa using hfit) h1;cases hq:P.info? ty with
 | none=> simp[hq] at hs
 | some it=>
  have hss:it.size=vs.length:=by simpa[hq] using hs
  simp only[Nat.add_zero] at hst;unfold execOp;simp[ho,hx,hy,Instr.storeAt,Instr.sureAddr,storeVar,sizeOf,typeInfo,hq,hss,Value.cells,hst];rfl
theorem run_zck(w:World):(Instr.build 32 #[]).run Tryz.prog w= .ok (.agg (ckC [] 0 z32B).toArray) w:=by go_simp;rfl
theorem not_eg{cs:Array Value}{f:Nat×Nat}(h1:T≠65)(h2:T≠30):∀(c:Array Value) (f':Nat×Nat),Obj.cells cs T f≠ .cells c 65 f'∧Obj.cells cs T f≠ .cells c 30 f':=fun c f'=>
 ⟨fun e=> h1 (by injection e),fun e=> h2 (by injection e)⟩
theorem EgAt.one{B:Nat}{w w':World}{ev:Value}{es:List (List HB)}{vs:List Value}{b:Nat}{cs:Array Value}{f:Nat×Nat}(h:EgAt B w ev es vs)(u:Upd (one b) w w')(hb:w.heap[b]? =some (.cells cs T f))(h1:T≠65)(h2:T≠30):EgAt B w' ev es vs:=
 h.upd u (fun g _ hs=> ⟨_,(congrArg (fun k=> w.heap[k]?) (show g=b from hs)).trans hb,not_eg h1 h2⟩)
structure A37 (a wb b cg:Nat) (C:List Value) (w:World):Prop where
 fb:w.cell? ⟨a,0,none⟩=some (.pointer (some ⟨wb,0,none⟩))
 fs:w.cell? ⟨wb,0,none⟩=some (.pointer (some ⟨b,0,none⟩))
 fc:∀j v,C[j]? =some v→w.cell? ⟨cg,0+j,none⟩=some v
theorem A37.upd{S:Nat→Prop}{a wb b cg:Nat}{C:List Value}{w w':World}(h:A37 a wb b cg C w)(u:Upd S w w')(h1:¬S a)(h2:¬S wb)(h3:¬S cg):A37 a wb b cg C w':=
 ⟨(u.cell (lt_of_cell h.fb) h1).trans h.fb,(u.cell (lt_of_cell h.fs) h2).trans h.fs,fun j v hv=> (u.cell (lt_of_cell (h.fc j v hv)) h3).trans (h.fc j v hv)⟩
theorem body_puts:hasBody Tryz.prog 53=true:=by kernel_rfl
theorem GrAt.eg{B B2 gb:Nat}{w:World}{V:GrV}{D:GrD}(h:GrAt B2 w gb V D)(hB:B≤B2):EgAt B w V.ev D.es V.vs:=⟨ownLow h.er hB,fun k=> ownLow (h.ee k) hB⟩
theorem StAt.mb_eg{w:World}{b mb:Nat}{tv:Value}{x:StD}(h:StAt w b mb tv x):∃o,w.heap[mb]? =some o∧∀c f,o≠ .cells c 65 f∧o≠ .cells c 30 f:=by obtain ⟨es,c,hmb⟩:=h.tex.blk;exact ⟨_,hmb,fun c f=> ⟨nofun,nofun⟩⟩
def rootE(es:List (List HB)):HB:=foldP (peaksE nodeH es)
def appPuts(n:Nat)(es:List (List HB))(ls:List (List UInt8)):List (ByteArray×ByteArray):=leafPuts n ls++(tilesP (n+ls.length) (appG n es ls) (appG n es ls).ts.length).map tileT
def appR(x:StD)(o:List UInt8)(n:Nat)(es:List (List HB))(ls:List (List UInt8)):StD×EV:=putP (putsL (x,none) (appPuts n es ls)) (str headB,str (ckptB o (n+ls.length) (rootE (appG n es ls).es)))
theorem foldP_one(x:HB):foldP [x]=x:=by unfold foldP;rw[if_neg (by simp)];rfl
theorem foldP_cons(p:HB)(ps:List HB)(h:ps≠ []):foldP (p::ps)=nodeH p (foldP ps):=by
 obtain ⟨n,hn⟩:∃n,ps.length=n+1:=⟨ps.length - 1,by have:=List.length_pos_iff.2 h;omega⟩;unfold foldP;rw[if_neg (by simp),if_neg h];have e1:(p::ps).length - 1=n+1:=by simp[hn]
 have e2:ps.length - 1=n:=by omega
 rw[e1,e2,List.take_succ_cons,List.getD_cons_succ];have h2:=cr_cons_all nodeH p (ps.take n) (ps.getD n []);rw[List.length_take,show min n ps.length=n by omega] at h2;exact h2
theorem pkD_up:∀(j i:Nat) (l:List HB),l.length < 2 ^ j→pkD nodeH (j+i) l=pkD nodeH j l
 | j,0,l,h=> rfl
 | j,i+1,l,h=> by have h1:2 ^ j≤2 ^ (j+i):=Nat.pow_le_pow_right (by decide) (by omega);rw[←Nat.add_assoc,pkD,if_neg (by omega)];exact pkD_up j i l h
theorem pkD_any{j i:Nat}{l:List HB}(hj:l.length < 2 ^ j)(hi:l.length < 2 ^ i):pkD nodeH j l=pkD nodeH i l:=by
 rcases Nat.le_total i j with h | h
 ·obtain ⟨k,rfl⟩:=Nat.le.dest h;exact pkD_up i k l hi
 ·obtain ⟨k,rfl⟩:=Nat.le.dest h;exact (pkD_up j k l hj).symm
theorem pkD_ne:∀(j:Nat) (l:List HB),0 < l.length→l.length < 2 ^ j→pkD nodeH j l≠ []
 | 0,l,h,h2=> by simp at h2;subst h2;simp at h
 | j+1,l,h,h2=> by
  rw[pkD];split
  ·simp
  ·exact pkD_ne j l h (by omega)
def mthP(l:List HB):HB:=foldP (pkD nodeH l.length l)
theorem mth_eq{l:List HB}(j:Nat)(h:l.length < 2 ^ j):mthP l=foldP (pkD nodeH j l):=by unfold mthP;rw[pkD_any Nat.lt_two_pow_self h]
theorem mth_nil:mthP []=emptyH:=rfl
theorem mth_one(x:HB):mthP [x]=x:=by rw[mth_eq 1 (by simp),pkD,if_pos (by simp),pkD];exact foldP_one x
theorem mth_pow(t:Nat)(l:List HB)(h:l.length=2 ^ t):mthP l=whole nodeH t l:=by rw[mth_eq (t+1) (by rw[h];exact Nat.pow_lt_pow_right (by decide) (Nat.lt_succ_self t)),pkD,if_pos (by omega),List.take_of_length_le (by omega),List.drop_of_length_le (by omega),pk_nil];exact foldP_one _
theorem mth_split(t:Nat)(l:List HB)(h1:2 ^ t < l.length)(h2:l.length≤2 ^ (t+1)):mthP l=nodeH (mthP (l.take (2 ^ t))) (mthP (l.drop (2 ^ t))):=by
 have hp:2 ^ (t+1)=2 ^ t+2 ^ t:=by rw[Nat.pow_succ];omega
 have ht:(l.take (2 ^ t)).length=2 ^ t:=by rw[List.length_take];omega
 rw[mth_pow t _ ht];rcases Nat.lt_or_ge l.length (2 ^ (t+1)) with h | h
 ·have hd:(l.drop (2 ^ t)).length < 2 ^ t:=by rw[List.length_drop];omega
  rw[mth_eq (t+1) h,pkD,if_pos (by omega),foldP_cons _ _ (pkD_ne t _ (by rw[List.length_drop];omega) hd),←mth_eq t hd]
 ·rw[mth_pow (t+1) l (by omega),mth_pow t (l.drop (2 ^ t)) (by rw[List.length_drop];omega)];rfl
theorem peaks_main(j:Nat):∀(m:Nat) (L:List HB),L.length=m→L.length < 2 ^ j→peaksE nodeH (L.foldl (stepE nodeH) [])=pkD nodeH j L
 | 0,L,hm,_=> by obtain rfl:=List.length_eq_zero_iff.1 hm;rw[pk_nil];rfl
 | m+1,L,hm,hj=> by
  have hne:L≠ []:=by intro e;rw[e] at hm;simp at hm
  obtain ⟨M,h,rfl⟩:∃M h,L=M++ [h]:=⟨L.dropLast,L.getLast hne,(List.dropLast_concat_getLast hne).symm⟩;have hl:M.length=m:=by simpa using hm
  have hj':M.length+1 < 2 ^ j:=by simpa using hj
  have ih:=peaks_main j m M hl (by omega);have hf:fitsP M.length (M.foldl (stepE nodeH) []):=by have h9:=foldl_fits nodeH M [] 0 rfl;rwa [Nat.zero_add] at h9
  rw[List.foldl_append,List.foldl_cons,List.foldl_nil,(step_main nodeH _ _ h hf).2.1,(pk_step nodeH j M h hj').2,ih]
theorem root_mth(L:List HB):rootE (L.foldl (stepE nodeH) [])=mthP L:=by unfold rootE mthP;rw[peaks_main L.length L.length L rfl Nat.lt_two_pow_self]
end Go.Proofs.YtnkcfkjeeennmaaGreatDoor
