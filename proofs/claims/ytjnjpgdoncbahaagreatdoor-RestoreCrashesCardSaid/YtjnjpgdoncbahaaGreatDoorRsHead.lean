/- restore.Head of a store that holds a checkpoint and the edges' tiles, by contract; reads may fail. PRINTED by wip/tools/gen_rshead.py. restore.Leaves of a store that holds a checkpoint, the edges' tiles and the leaves, by contract; reads may fail. PRINTED by wip/tools/gen_rsleaves.py. The statements' small of chapter 26, fits, unlike, by contracts. The statements' last of chapter 26 by contract: the puts of an append are counted in a store of its own. The statements' unlike of chapter 26 by contract. The statements' told of chapter 26 by contract. restore.Open by contract. -/
import Derived.Test.YtjnjpgdoncbahaaGreatDoorFDec
import Derived.Test.YtjnjpgdoncbahaaGreatDoorNaive
import Derived.Test.YtjnjpgdoncbahaaGreatDoorWrN
import Derived.Test.YtjnjpgdoncbahaaGreatDoorGrT
import Derived.Test.YtjnjpgdoncbahaaGreatDoorRsP
import Derived.Test.YtjnjpgdoncbahaaGreatDoorRefGrP
namespace Go.Proofs.YtjnjpgdoncbahaaGreatDoor
open Go.RowKit Go.Lib Go.Sort
set_option maxRecDepth 20000
set_option maxHeartbeats 32000000
variable {B b g k lb mb n p q q1 q2 wb:Nat}{R:HB}{S:Nat→Prop}{a:Option Addr}{cs:Array Value}{ended:Bool}{es:List (List HB)}{ls:List (List UInt8)}{lv tv v:Value}{se:Nat→Addr}{w w' wr:World}{x xk:StD}
theorem results_cell_three{P:Program}{fn:Func}{p u v:Tmp}{ty:TypeId}(h:fn.results=#[.cell p ty,.tmp u,.tmp v])(tmps:Array Value)(w:World)(g:Nat)(t:TypeId)(cs:Array Value)(fr:Nat×Nat)(d:TypeDesc)(v1 v2:Value)(h1:tmps.getD u undef=v1)(h2:tmps.getD v undef=v2)
 (hp:tmps.getD p undef= .pointer (some ⟨g,0,none⟩)) (hg:w.heap[g]? =some (.cells cs t fr))
 (hu:P.underlying ty=some d) (hd:(match d with | .struct _ | .array _ _=> true | _=> false)=true) (hi:(P.info? ty).map (·.size)=some cs.size):
 (results fn tmps).run P w= .ok (.tuple #[.agg cs,v1,v2]) w:=by
 have hp':tmps[p]?.getD undef= .pointer (some ⟨g,0,none⟩):=by simpa using hp
 rw[←h1,←h2];simp[results,h,hp',asAddr,run_loadVar_row w g t ty cs fr d hg hu hd hi]
theorem Upd.cellq(u:Upd S w w')(h:w.cell? ⟨g,0,none⟩=some v)(hn:¬S g):w'.cell? ⟨g,0,none⟩=some v:=(Upd.cell u (lt_of_cell h) hn).trans h
def HdRes(se:Nat→Addr)(B:Nat)(n:Nat)(R:HB)(es:List (List HB))(e:Ending)(w':World):Bool→Prop
 | true=> (rootE es=R∧∃ev vs,e= .returned (.tuple #[ckV oL n R,ev,.nilIface])∧EgAt B w' ev es vs)∨(rootE es≠R∧e= .returned (.tuple #[ckV [] 0 z32B,.slice none 0 0,sv se 9]))
 | false=> e= .returned (.tuple #[ckV [] 0 z32B,.slice none 0 0,sv se 7])
def HeadPost(se:Nat→Addr)(b mb:Nat)(tv:Value)(x:StD)(w:World)(n:Nat)(R:HB)(es:List (List HB))(e:Ending)(w':World):Prop:=
 ∃x' ok,RdOut x (1+rdsE es) x' ok∧StAt w' b mb tv x'∧Upd (one b) w w'∧HdRes se w.heap.size n R es e w' ok
theorem ck_zero35:(Tryz.prog.info? 36).map (·.size)=some (ckC [] 0 z32B).length:=by kernel_rfl
theorem StAt.offP(h:StAt w b mb tv x)(u:Upd (fun g=> g=p) w w')(h1:b < p)(h2:mb < p)(h3:∀g,tv.ownBlock=some g→g < p):StAt w' b mb tv x:=
 h.upd u (fun e=> by have h9:b=p:=e;omega) (fun e=> by have h9:mb=p:=e;omega) (fun g hg e=> by have:=h3 g hg;have h9:g=p:=e;omega)
structure HdW (w:World) (B b mb p q q1 q2:Nat) (se:Nat→Addr) (tv:Value) (n:Nat) (R:HB) (xk:StD) (wr:World):Prop where
 pc:wr.heap[p]? =some (.cells (ckC oL n R).toArray 36 (0,0))
 qc:wr.heap[q]? =some (.cells #[.nilIface] 24 (0,0))
 gt:GtAt wr q1 q2 q b
 st:StAt wr b mb tv xk
 en:Env B se wr
 up:Upd (one b) w wr
theorem HdW.ext(h:HdW w B b mb p q q1 q2 se tv n R xk wr)(u:Ext wr w'):HdW w B b mb p q q1 q2 se tv n R xk w':=
 ⟨Ext.blk u h.pc,Ext.blk u h.qc,h.gt.upd u id id,h.st.ext u,h.en.ext u,h.up.thenExt u⟩
theorem HdW.row(h:HdW w B b mb p q q1 q2 se tv n R xk wr)(hB:B≤w.heap.size){xs:List Value}(hr:wr.ownsRow w.heap.size 113 1 v k xs)(u:Upd (fun g=> v.ownBlock=some g) wr w'):HdW w B b mb p q q1 q2 se tv n R xk w':=by
 have N:∀(g:Nat) (o:Obj),wr.heap[g]? =some o→(∀c f,o≠ .cells c 113 f)→v.ownBlock≠some g:=fun g o hg hne e=> by obtain ⟨c,hc⟩:=rowT hr e;rw[hc] at hg;exact hne _ _ (Option.some.inj hg).symm
 obtain ⟨es,c,hm⟩:=h.st.tex.blk;exact ⟨u.blk h.pc (N p _ h.pc (by simp)),u.blk h.qc (N q _ h.qc (by simp)),h.gt.upd u (N q1 _ h.gt.b1 (by simp)) (N q2 _ h.gt.b2 (by simp)),
  h.st.upd u (N b _ h.st.blk (by simp)) (N mb _ hm (by simp)) (fun g hg=> by obtain ⟨c1,hc1⟩:=rowT h.st.row hg;exact N g _ hc1 (by simp)),h.en.upd u (fun g hg=> Nat.le_trans hB (hr.lt g hg).1),h.up.then u (fun g hg e=> by have:=(hr.lt g e).1;omega)⟩
def HdRel(w:World)(B b mb p q q1 q2:Nat)(se:Nat→Addr)(tv:Value)(x:StD)(n:Nat)(R:HB)(es:List (List HB))(ev lv nv:Value)(wr:World):Prop:=
 ∃(k:Nat) (vs:List Value) (xk:StD),k≤es.length∧lv= .int .u8 k∧nv= .int .u64 ((n / 256 ^ k:Nat))∧EdJ w.heap.size wr ev es k vs∧RdOut x (1+rdsE (es.take k)) xk true∧HdW w B b mb p q q1 q2 se tv n R xk wr
theorem rshead_any(E:Env B se w)(H:StAt w b mb tv x)(hB:B≤b)(T:HeadT x.texts n R es)(hd:x.dead=false)(hn:x.nr < 1099511627776)(hL:x.rs.length < 1099511627776):
 Calls Tryz.prog 9 #[.pointer (some ⟨b,0,none⟩)] w (HeadPost se b mb tv x w n R es):=by
 obtain ⟨p,hp⟩:∃p,p=w.heap.size:=⟨_,rfl⟩;obtain ⟨W,hW⟩:∃W,W=w.alloc (.cells zckA 36):=⟨_,rfl⟩;have HX0:Hid (Ext w W):=ZA (hW▸(Upd.refl none' w).alloc _);have HP0:Hid (W.heap[p]? =some (.cells (ckC [] 0 z32B).toArray 36 (0,0))):=ZA (by rw[hW,hp];exact blk_alloc w (.cells zckA 36));have HPB:Hid (w.heap.size≤p∧b < p∧mb < p∧B≤p):=ZA (by obtain ⟨es,c,hm⟩:=H.tex.blk;have h1:=lt_of_blk H.blk;have h2:=lt_of_blk hm;have h3:=E.g.size;omega)
 have C:=get_any (E.ext HX0.o).g (H.ext HX0.o) hB (str headB) (by decide) (by omega) (by omega);unfold GetPost at C;rw[get_rd (by decide) hd T.ck] at C;have HE:=ZA (E.ext HX0.o);have HH:=ZA H;have HT:=ZA T;have HNL:=ZA (And.intro hd (And.intro hn (And.intro hL hB)));have HZL:Hid ((ckC oL n R).length=35∧(ckC [] 0 z32B).length=35):=ZA ⟨ck_len oL n R T.r32,rfl⟩;have HFZ:Hid (0+(ckC [] 0 z32B).length≤(ckC [] 0 z32B).length):=ZA (by simp);have HRD:Hid (x.rd=x.rd):=ZA rfl;generalize hrd:x.rd=rd at C;have HR1:=ZA hrd;have HTV:Hid (∀g,tv.ownBlock=some g→g < p):=ZA (fun g hg=> by rw[hp];exact (H.row.lt g hg).2);have HST0:Hid (∀S w',Upd S W w'→¬S b→¬S mb→(∀g,tv.ownBlock=some g→¬S g)→StAt w' b mb tv x):=ZA (fun S w' u h1 h2 h3=> (H.ext HX0.o).upd u h1 h2 h3);have HBS:Hid (B≤w.heap.size):=ZA E.g.size;clear E H T hB hd hn hL hrd HRD;cases rd with
 | true=>
  simp only[if_true,evS] at C;go_enter Tryz.func9,Tryz.ntmps9;rw[show sv se 7= .iface 457 (.pointer (some (se 7))) from rfl] at C;obtain ⟨a7,h7⟩:∃a,a=se 7:=⟨_,rfl⟩;have H7:=ZA h7;rw[←h7] at C;go_wp2_with fail;rw[←hp,←hW];clear h7 hp hW;refine C.mono ?_;rintro e w1 ⟨rfl,hst,hu⟩;have HST:=ZA hst;have HU:=ZA hu;have HP1:=ZA (hu.blk HP0.o (fun e=> by have:=HPB.o;have h9:p=b:=e;omega));clear C hst hu;go_wp2_with (first
   | (refine wpList_run rfl (exec_build _ [] rfl [] _ rfl (run_zck _)) ?_)
   | (refine wpList_storeAgg rfl 36 _ _ rfl p 0 rfl (ckC [] 0 z32B) rfl ck_zero35 _ 36 HP1.o HFZ.o (ck_ones [] 0 z32B) ?_))
  rw[show over (ckC [] 0 z32B) 0 (ckC [] 0 z32B)=ckC [] 0 z32B from over_all _ _ rfl];have HU2:=ZA ((Upd.refl (fun g=> g=p) w1).setRow (g:=p) (.inr rfl) (ckC [] 0 z32B).toArray);exact bodyPost_ret (v:= .tuple #[ckV [] 0 z32B,.slice none 0 0,.iface 457 (.pointer (some a7))]) (results_cell_three rfl _ _ p 36 _ (0,0) _ _ _ rfl rfl rfl (blk_setRow HP1.o _) Tryz.underlying36 rfl ck_zero35) rfl ⟨x.on 1,false,(RdOut.zero x).fail HR1.o (by omega),HST.o.offP HU2.o HPB.o.2.1 HPB.o.2.2.1 HTV.o,((Upd.ext HX0.o _).trans HU.o).setRow (.inl HPB.o.1) _,by unfold HdRes;rw[H7.o]⟩
 | false=>
  simp only[Bool.false_eq_true,if_false,evS] at C;go_enter Tryz.func9,Tryz.ntmps9;go_wp2_with fail;rw[←hp,←hW];clear hp hW;refine C.mono ?_;rintro e w1 ⟨rfl,hst,hu⟩;have HST:=ZA hst;have HU:=ZA hu;have HP1:=ZA (hu.blk HP0.o (fun e=> by have:=HPB.o;have h9:p=b:=e;omega));have HE1:=ZA (HE.o.upd hu (fun q hq=> by rw[show q=b from hq];exact HNL.o.2.2.2));have CP:=parse_any HE1.o n HT.o.n20 R HT.o.r32;generalize ckptB oL n R=tx at*;clear C hst hu;go_wp2_with fail;refine CP.mono ?_;rintro e w2 ⟨rfl,hx2⟩;have HX2:=ZA hx2;have HP2:=ZA (Ext.blk hx2 HP1.o);have HCN:=ZA (ck_size35 oL n R HT.o.r32);have HFN:Hid (0+(ckC oL n R).length≤(ckC [] 0 z32B).length):=ZA (by rw[HZL.o.1];decide);have HOZ:Hid (over (ckC oL n R) 0 (ckC [] 0 z32B)=ckC [] 0 z32B):=ZA (over_all _ _ (by rw[HZL.o.1];rfl));have HOV:Hid (over (ckC [] 0 z32B) 0 (ckC oL n R)=ckC oL n R):=ZA (over_all _ _ (by rw[HZL.o.1];rfl));have HP3:Hid ((w2.setRow p (over (ckC [] 0 z32B) 0 (ckC oL n R)).toArray).heap[p]? =some (.cells (ckC oL n R).toArray 36 (0,0))):=ZA (by rw[HOV.o];exact blk_setRow HP2.o _);have HU3:=ZA ((Upd.refl (fun g=> g=p) w2).setRow (g:=p) (.inr rfl) (over (ckC [] 0 z32B) 0 (ckC oL n R)).toArray);have HST3:=ZA ((HST.o.ext HX2.o).offP HU3.o HPB.o.2.1 HPB.o.2.2.1 HTV.o);have HE3:=ZA ((HE1.o.ext HX2.o).upd HU3.o (fun q hq=> by rw[show q=p from hq];exact HPB.o.2.2.2));have HUW:Hid (Upd (one b) w (w2.setRow p (over (ckC [] 0 z32B) 0 (ckC oL n R)).toArray)):=ZA ((((Upd.ext HX0.o _).trans HU.o).thenExt HX2.o).setRow (.inl HPB.o.1) _);have HSW:Hid ((w2.setRow p (over (ckC [] 0 z32B) 0 (ckC oL n R)).toArray).heap.size=w2.heap.size):=ZA (by simp[World.setRow]);have c34:(w2.setRow p (over (ckC [] 0 z32B) 0 (ckC oL n R)).toArray).cell? ⟨p,34,none⟩=some (.slice none 0 0):=by rw[cell_of_blk HP3.o 34];unfold ckC;simp[HT.o.r32]
  clear CP hx2;go_wp2_with (refine wpList_storeAgg rfl 36 _ _ rfl p 0 rfl (ckC oL n R) rfl HCN.o (ckC [] 0 z32B) 36 HP2.o HFN.o (ck_ones oL n R) ?_);generalize w2.setRow p (over (ckC [] 0 z32B) 0 (ckC oL n R)).toArray=w3 at*;have HS3:Hid (w3.heap.size=w2.heap.size):=ZA HSW.o;obtain ⟨q,hq⟩:∃q,q=w2.heap.size:=⟨_,rfl⟩;have HQ4:Hid ((w3.alloc (.cells #[.nilIface] 24)).heap[q]? =some (.cells #[.nilIface] 24 (0,0))):=ZA (by have h:=blk_alloc w3 (.cells #[.nilIface] 24);rwa [HS3.o,←hq] at h)
  have HX4:=ZA ((Upd.refl none' w3).alloc (.cells #[.nilIface] 24));have HQW:Hid (w.heap.size≤q∧p < q∧b < q∧mb < q∧B≤q):=ZA (by have h1:=lt_of_blk HP3.o;rw[HS3.o] at h1;have h2:=HPB.o;omega)
  rw[←hq];generalize w3.alloc (.cells #[.nilIface] 24)=w4 at*;clear hq;refine (getter_any w4 b q).mono ?_;rintro e w5 ⟨q1,q2,rfl,hgt,hq1,hq2,hx5⟩;have HX35:=ZA (HX4.o.trans hx5);have HD5:Hid (HdW w B b mb p q q1 q2 se tv n R (x.on 1) w5):=ZA ⟨Ext.blk HX35.o HP3.o,Ext.blk hx5 HQ4.o,hgt,HST3.o.ext HX35.o,HE3.o.ext HX35.o,HUW.o.thenExt HX35.o⟩;have HQQ:Hid (q < q1∧q < q2):=ZA (by have h:=lt_of_blk HQ4.o;omega)
  have c1:w5.cell? ⟨p,1,none⟩=some (.int .u64 n):=cell_of_blk HD5.o.pc 1;have HR2:Hid (RdOut x 1 (x.on 1) true):=ZA ((RdOut.zero x).more HR1.o);clear hgt hq1 hq2 hx5;go_wp2_with fail;clear c1;go_loopw [3,8,9] (fun ev lv nv wr=> HdRel w B b mb p q q1 q2 se tv x n R es ev lv nv wr) (fun _ _ nv _=> (RowKit.intOf nv).toNat);case atStart=> exact ⟨0,[],x.on 1,Nat.zero_le _,rfl,by simp,EdJ.nil _ _ _,HR2.o,HD5.o⟩
  case round=>
   obtain ⟨k,vs,xk,hk,rfl,rfl,hed,hrd,hw⟩:=hrel;have HED:=ZA hed;have HRD:=ZA hrd;have HW:=ZA hw;have HK:=ZA hk;obtain ⟨S,hS⟩:∃S,S=n / 256 ^ k:=⟨_,rfl⟩;have HS:=ZA hS;rw[←hS];have hSn:S≤1048576:=by rw[hS];exact Nat.le_trans (Nat.div_le_self _ _) HT.o.n20
   have hiff:=fits_len es n k HT.o.fit;have hget:=fits_get es n k HT.o.fit;have h3:=fits_3 HT.o.fit (by have:=HT.o.n20;omega);rw[←hS] at hiff hget;obtain ⟨ev0,evc,rfl⟩:=own_sl hed.er;clear hed hrd hw hk hS;by_cases hpos:0 < S
   ·have hkl:k < es.length:=by
     rcases Nat.lt_or_ge k es.length with h | h
     ·exact h
     ·have:=hiff.2 h;omega
    have hposi:(0:Int) < S:=by omega
    obtain ⟨m,hm⟩:∃m,m=S % 256:=⟨_,rfl⟩;obtain ⟨S2,hS2⟩:∃S2,S2=S / 256:=⟨_,rfl⟩;have HS2:Hid (S2=n / 256 ^ (k+1)):=ZA (by rw[hS2,HS.o,Nat.pow_succ,Nat.div_div_eq_div_mul]);have hrem:(S:Int) % 256=m:=by omega
    have hremt:(S:Int).tmod 256=m:=by rw[Int.tmod_eq_emod_of_nonneg (by omega)];exact hrem
    have hdiv:(S:Int) / 256=S2:=by omega
    have hwS2:IntKind.u64.wrap (S2:Int)=S2:=by rw[IntKind.wrap_u64];omega
    have hlev:IntKind.u8.wrap ((k:Int)+1)=((k+1:Nat):Int):=by rw[IntKind.wrap_u8'];omega
    have HKL:=ZA (And.intro hkl (And.intro h3 (And.intro hpos hSn)));have HM:=ZA (And.intro hm hS2);have HTK:=ZA (rdsE_take es k hkl);have HGE:=ZA hget;clear hiff hget h3 hkl hpos hSn hm hS2;by_cases hm0:0 < m
    ·have hm0i:(0:Int) < m:=by omega
     obtain ⟨j0,hj0,hy0,hy1,hy2⟩:=info_parts info_sl;have hc1:wr.cell? ⟨p,1,none⟩=some (.int .u64 n):=cell_of_blk HW.o.pc 1;have hpow:S=n / 2 ^ (8*k):=by rw[HS.o,show (256:Nat) ^ k=2 ^ (8*k) by rw[Nat.pow_mul]]
     have CI:=tin_any wr k S2 n (by have:=HKL.o;omega) (by have:=HKL.o;have:=HM.o;omega) HT.o.n20 S hpow;rw[if_pos (by have:=HM.o;omega),decide_eq_true (by have:=HM.o;omega),show min (S - S2*256) 256=m by have:=HM.o;omega] at CI;have HNE:Hid (es.getD k []≠ []):=ZA (fun h=> by have h9:=HGE.o;rw[h,←HM.o.1] at h9;simp at h9;omega)
     have HLK:=ZA (HT.o.tl k HNE.o);have HE32:Hid (H32 (es.getD k [])∧(es.getD k []).length=m):=ZA ⟨by have hk9:=HKL.o.1;rw[List.getD_eq_getElem?_getD,List.getElem?_eq_getElem hk9];exact (HT.o.e32 _ (List.getElem_mem hk9)).1,by rw[HGE.o,←HM.o.1]⟩
     rw[HGE.o,←HM.o.1,←HS.o,←HM.o.2] at HLK;obtain ⟨e,he⟩:∃e,e=es.getD k []:=⟨_,rfl⟩;have HEQ:=ZA he;rw[←he] at HLK HE32 HNE;have HM256:Hid (1≤m∧m≤256∧S2≤65536):=ZA (by have:=HM.o;have:=HKL.o;omega);clear hm0 hpow he;go_wp2_with fail;refine CI.mono ?_;rintro e1 w6 ⟨rfl,hx6⟩;have HXA:=ZA (hx6.alloc (.cells #[.int .u8 k,.int .u64 S2,.int .i64 m] 115));have HWA:=ZA (HW.o.ext HXA.o);have HTL:=ZA (blk_alloc w6 (.cells #[.int .u8 k,.int .u64 S2,.int .i64 m] 115));have t0:(w6.alloc (.cells #[.int .u8 k,.int .u64 S2,.int .i64 m] 115)).cell? ⟨w6.heap.size,0,none⟩=some (.int .u8 k):=cell_of_blk HTL.o 0;have t1:(w6.alloc (.cells #[.int .u8 k,.int .u64 S2,.int .i64 m] 115)).cell? ⟨w6.heap.size,1,none⟩=some (.int .u64 S2):=cell_of_blk HTL.o 1;have t2:(w6.alloc (.cells #[.int .u8 k,.int .u64 S2,.int .i64 m] 115)).cell? ⟨w6.heap.size,2,none⟩=some (.int .i64 m):=cell_of_blk HTL.o 2;have CP:=path_any (w6.alloc (.cells #[.int .u8 k,.int .u64 S2,.int .i64 m] 115)) k S2 m (by have:=HKL.o;omega) HM256.o.2.2 HM256.o.1 HM256.o.2.1 HWA.o.en.t10;clear CI hx6 hc1;unfold tlV;obtain ⟨td,htd⟩:∃td,td=w6.heap.size:=⟨_,rfl⟩;go_wp2_with fail;rw[←htd] at HTL t0 t1 t2⊢;generalize w6.alloc (.cells #[.int .u8 k,.int .u64 S2,.int .i64 m] 115)=wa at*;refine CP.mono ?_;rintro e2 w8 ⟨rfl,hx8⟩;have HW8:=ZA (HWA.o.ext hx8);have HX8:=ZA (HXA.o.trans hx8);have HTL8:=ZA (Ext.blk hx8 HTL.o);obtain ⟨s1,s2,s3,s4,s5,s6,s7⟩:=HRD.o.same;have hrl:=rdsE_le es k;have h3:=HKL.o.2.1;have hcn:rdsE es≤es.length:=List.countP_le_length;have CG:=getter1_any HW8.o.en.g HW8.o.st HNL.o.2.2.2 HQW.o.2.2.2.2 HW8.o.gt HW8.o.qc (pathB_ok k S2 m (by have:=HKL.o.1;omega) HM256.o.2.2 HM256.o.2.1) (s5.trans HNL.o.1) (by have:=HNL.o.2.1;omega) (by rw[s2];have:=HNL.o.2.2.1;omega) (by rw[s1];exact HLK.o);clear CP hx8 t0 t1 t2 s1 s2 s3 s4 s5 s6 s7 hrl h3 hcn htd;generalize hxr:xk.rd=rd at*;have HXR:=ZA hxr;clear hxr;generalize pathB k S2 m=nm at*;cases rd with
     | true=>
      simp only[if_true] at CG;rw[show sv se 7= .iface 457 (.pointer (some (se 7))) from rfl] at CG;obtain ⟨a7,h7⟩:∃a,a=se 7:=⟨_,rfl⟩;have H7:=ZA h7;rw[←h7] at CG;clear h7;go_wp2_with fail;refine CG.mono ?_;rintro e3 w9 ⟨rfl,hst,hq9,hgt9,hu⟩;have HP9:=ZA (hu.blk HW8.o.pc (fun e=> by have:=HPB.o;have:=HQW.o;rcases e with e | e <;> omega));have HU9:=ZA hu;have HST9:=ZA hst;have cq:w9.cell? ⟨q,0,none⟩=some (.iface 457 (.pointer (some a7))):=cell_of_blk hq9 0;clear CG hst hq9 hgt9 hu;go_wp2_with fail;have HP9D:Hid (w9.drew.heap[p]? =some (.cells (ckC oL n R).toArray 36 (0,0))):=ZA HP9.o;have HQ9:=ZA cq;have HQ9D:Hid (w9.drew.cell? ⟨q,0,none⟩=some (.iface 457 (.pointer (some a7)))):=ZA cq;have HQ9E:Hid ((w9.drew.setRow p (ckC [] 0 z32B).toArray).cell? ⟨q,0,none⟩=some (.iface 457 (.pointer (some a7)))):=ZA ((((Upd.refl (fun g=> g=p) w9).drew).setRow (g:=p) (.inr rfl) _).cellq HQ9.o (fun e=> by have:=HQW.o;have h9:q=p:=e;omega));have HPE:=ZA (blk_setRow HP9D.o (ckC [] 0 z32B).toArray);have HUE:Hid (Upd (fun g=> g=p) w9 (w9.drew.setRow p (ckC [] 0 z32B).toArray)):=ZA (((Upd.refl (fun g=> g=p) w9).drew).setRow (g:=p) (.inr rfl) _);clear cq;refine wp_region_any (by kernel_rfl) ?_;refine any_seqM (t:=0) 2 (w9.drew.setRow p (ckC [] 0 z32B).toArray) [0,1,2,3,4] [_,_,_,_,_] (by kernel_rfl) rfl (by kernel_rfl) (by kernel_rfl) (by kernel_rfl) (by kernel_rfl) ?_;simp only[List.getElem_toArray,List.getElem_cons_succ,List.getElem_cons_zero];refine m_read (v:= .agg (ckC [] 0 z32B).toArray) rfl (by decide) (exec_build _ [] rfl [] _ rfl (run_zck _)) (exec_build _ [] rfl [] _ rfl (run_zck _)) ?_;refine m_norm (by go_simp;exact rfl) ?_;refine m_read (v:=(.iface 457 (.pointer (some a7)))) rfl (by decide) (run_ld1 _ rfl ⟨q,0,none⟩ _ rfl Tryz.underlying24 rfl HQ9D.o) (run_ld1 _ rfl ⟨q,0,none⟩ _ rfl Tryz.underlying24 rfl HQ9E.o) ?_;refine m_norm (by go_simp;exact rfl) ?_;refine m_store rfl ((run_storeAggAt 36 _ _ rfl p 0 rfl (ckC [] 0 z32B) rfl ck_zero35 (ckC oL n R) 36 HP9D.o (by rw[HZL.o.1];exact Nat.le_refl _) (ck_ones _ _ _)).trans (by rw[HOZ.o])) ?_;refine m_norm (by go_simp;exact rfl) ?_;refine m_read (v:= .slice none 0 0) rfl (by decide) (by go_simp) (by go_simp) ?_;refine m_norm (by go_simp;exact rfl) ?_;refine m_read (v:=(.iface 457 (.pointer (some a7)))) rfl (by decide) (by go_simp) (by go_simp) ?_;refine m_norm (by go_simp;exact rfl) ?_;refine m_nil ?_;refine wpAny_done (by kernel_rfl) ?_ _;go_wp2_with fail;exact bodyPost_ret (v:= .tuple #[ckV [] 0 z32B,.slice none 0 0,.iface 457 (.pointer (some a7))]) (results_cell_three rfl _ _ p 36 _ (0,0) _ _ _ rfl rfl rfl HPE.o Tryz.underlying36 rfl ck_zero35) rfl ⟨xk.on 1,false,HRD.o.fail HXR.o (by have h1:=rdsE_le es (k+1);have h2:=HTK.o;rw[if_neg (by rw[←HEQ.o];exact HNE.o)] at h2;omega),HST9.o.offP HUE.o HPB.o.2.1 HPB.o.2.2.1 HTV.o,((HW8.o.up.then HU9.o (fun g hg e=> by
       rcases e with e | e
       ·exact e
       ·have:=HQW.o;omega)).drew).setRow (.inl HPB.o.1) _,by unfold HdRes;rw[H7.o]⟩
     | false=>
      simp only[Bool.false_eq_true,if_false] at CG;go_wp2_with fail;refine CG.mono ?_;rintro e3 w9 ⟨rfl,hst,hq9,hgt9,hu⟩;have HU9:=ZA hu;have HED9:Hid (EdJ w.heap.size w9 (.slice ev0 k evc) es k vs):=ZA ((HED.o.ext HX8.o).upd hu (fun g _ e=> by
       rcases e with e | e
       ·exact ⟨_,by rw[e];exact HW8.o.st.blk,fun c f=> ⟨by simp,by simp⟩⟩
       ·exact ⟨_,by rw[e];exact HW8.o.qc,fun c f=> ⟨by simp,by simp⟩⟩))
      have HTL9:=ZA (hu.blk HTL8.o (fun e=> by
       rcases e with e | e
       ·have h9:=HTL8.o;rw[e,HW8.o.st.blk] at h9;simp at h9
       ·have h9:=HTL8.o;rw[e,HW8.o.qc] at h9;simp at h9))
      have HW9:Hid (HdW w B b mb p q q1 q2 se tv n R (xk.on 1) w9):=ZA ⟨hu.blk HW8.o.pc (fun e=> by have:=HPB.o;have:=HQW.o;rcases e with e | e <;> omega),hq9,hgt9,hst,HW8.o.en.upd hu (fun g e=> by have:=HNL.o.2.2.2;have:=HQW.o;rcases e with e | e <;> omega),HW8.o.up.then hu (fun g hg e=> by
       rcases e with e | e
       ·exact e
       ·have:=HQW.o;omega)⟩
      have cq:w9.cell? ⟨q,0,none⟩=some .nilIface:=cell_of_blk hq9 0;have t2:w9.cell? ⟨td,2,none⟩=some (.int .i64 m):=cell_of_blk HTL9.o 2;have CD:=tdec_any w9 e HE32.o.1 (by rw[HE32.o.2];exact HM256.o.1) (by rw[HE32.o.2];exact HM256.o.2.1);rw[HE32.o.2] at CD;clear CG hst hq9 hgt9 hu;go_wp2_with fail;refine CD.mono ?_;rintro e4 wd ⟨v9,rfl,hown9,hxd⟩;have HXD:=ZA hxd;have HOW:=ZA hown9;obtain ⟨dA,dc,rfl⟩:=own_sl hown9;have HEDD:=ZA (HED9.o.ext hxd);have HWD:=ZA (HW9.o.ext hxd);clear CD cq t2 hxd hown9;have HU3:=ZA ((Upd.refl none' wd).alloc (.cells #[.slice dA m dc] 113));have HO3:=ZA (ownsRow_upd HEDD.o.er HU3.o (fun _ _=> id));have HCN:=ZA (CellsAt.new wd [.slice dA m dc] 113);have HO1:Hid (∀u∈([.slice dA m dc]:List Value),u.oneCell'=true):=ZA (by intro u hu;rw[List.mem_singleton.1 hu];rfl);have HLM:Hid (k+1≤maxLen∧(k+1)*24≤140737488355328):=ZA (by unfold maxLen;have:=HKL.o;omega);have HBW:Hid (w.heap.size≤(wd.alloc (.cells #[.slice dA m dc] 113)).heap.size):=ZA (Nat.le_trans HWD.o.up.size HU3.o.size);go_wp2_with (first
       | (refine wpList_run rfl (exec_build1 37 113 _ rfl (.slice dA m dc) rfl Tryz.underlying37 j0 _ hj0 hy0 hy1 rfl) ?_)
       | (at_builtin;(refine wpList_appX rfl _ _ 37 rfl w.heap.size 113 j0 _ 1 24 Tryz.underlying37 hj0 hy0 hy1 hy2 rfl (by decide) (.slice ev0 k evc) k _ rfl HO3.o (some ⟨wd.heap.size,0,none⟩) 1 1 [.slice dA m dc] rfl rfl HCN.o HO1.o HLM.o.1 HLM.o.2 HBW.o ?_)))
      intro A7 c7 w7 hown7 hgrow7 _;have HUR:Hid (Upd (fun g=> (Value.slice ev0 k evc).ownBlock=some g) (wd.alloc (.cells #[.slice dA m dc] 113)) w7):=ZA ((Upd.refl _ _).grown hgrow7 (fun g hg=> .inr hg));have HED7:=ZA ((HEDD.o.ext HU3.o).snoc HUR.o hown7 (by rw[←HEQ.o,HE32.o.2];exact own_lowN (ownsRow_upd HOW.o HU3.o (fun _ _=> id)) HW9.o.up.size));have HW7:=ZA ((HWD.o.ext HU3.o).row HBS.o HO3.o HUR.o);clear hown7 hgrow7;go_wp2_with fail;have hlt:=HKL.o.1;have hs:=HKL.o.2.2.1;have hd:=HM.o.2;refine ⟨⟨k+1,_,xk.on 1,by omega,by first | rfl | (simp <;> omega),by rw[←HS2.o],HED7.o,by rw[HTK.o,if_neg (by rw[←HEQ.o];exact HNE.o)];exact HRD.o.more HXR.o,HW7.o⟩,?_⟩;simp[RowKit.intOf];omega
    ·have hm0i:¬(0:Int) < m:=by omega
     obtain ⟨j0,hj0,hy0,hy1,hy2⟩:=info_parts info_sl;have HNE:Hid (es.getD k []= []):=ZA (List.length_eq_zero_iff.1 (by rw[HGE.o,←HM.o.1];omega));have HU3:=ZA ((Upd.refl none' wr).alloc (.cells #[.slice none 0 0] 113));have HO3:=ZA (ownsRow_upd HED.o.er HU3.o (fun _ _=> id));have HCN:=ZA (CellsAt.new wr [.slice none 0 0] 113);have HO1:Hid (∀u∈([.slice none 0 0]:List Value),u.oneCell'=true):=ZA (by intro u hu;rw[List.mem_singleton.1 hu];rfl);have HLM:Hid (k+1≤maxLen∧(k+1)*24≤140737488355328):=ZA (by unfold maxLen;have:=HKL.o;omega);have HBW:Hid (w.heap.size≤(wr.alloc (.cells #[.slice none 0 0] 113)).heap.size):=ZA (Nat.le_trans HW.o.up.size HU3.o.size);clear hm0;go_wp2_with (first
      | (refine wpList_run rfl (exec_build1 37 113 _ rfl (.slice none 0 0) rfl Tryz.underlying37 j0 _ hj0 hy0 hy1 rfl) ?_)
      | (at_builtin;(refine wpList_appX rfl _ _ 37 rfl w.heap.size 113 j0 _ 1 24 Tryz.underlying37 hj0 hy0 hy1 hy2 rfl (by decide) (.slice ev0 k evc) k _ rfl HO3.o (some ⟨wr.heap.size,0,none⟩) 1 1 [.slice none 0 0] rfl rfl HCN.o HO1.o HLM.o.1 HLM.o.2 HBW.o ?_)))
     intro A7 c7 w7 hown7 hgrow7 _;have HUR:Hid (Upd (fun g=> (Value.slice ev0 k evc).ownBlock=some g) (wr.alloc (.cells #[.slice none 0 0] 113)) w7):=ZA ((Upd.refl _ _).grown hgrow7 (fun g hg=> .inr hg));have HED7:=ZA ((HED.o.ext HU3.o).snoc HUR.o hown7 (by rw[HNE.o];exact World.ownsRow_nil _ _ _ _));have HW7:=ZA ((HW.o.ext HU3.o).row HBS.o HO3.o HUR.o);clear hown7 hgrow7;go_wp2_with fail;have hlt:=HKL.o.1;have hs:=HKL.o.2.2.1;have hd:=HM.o.2;refine ⟨⟨k+1,_,xk,by omega,by first | rfl | (simp <;> omega),by rw[←HS2.o],HED7.o,by rw[HTK.o,if_pos HNE.o];exact HRD.o,HW7.o⟩,?_⟩;simp[RowKit.intOf];omega
   ·have hS0:S=0:=by omega
    have hke:k=es.length:=by have:=hiff.1 hS0;have:=HK.o;omega
    subst hke;have hposi:¬(0:Int) < S:=by omega
    have HEG:=ZA HED.o.eg;have CR:=rsroot_any wr ev0 es evc HEG.o.at HT.o.e32 (by omega) HW.o.en.sgw HW.o.en.sh;have HRK:=ZA (show RdOut x (1+rdsE es) xk true by have h:=HRD.o;rwa [List.take_length] at h);have HX32:=ZA (show (rootE es).length=32 from foldP_len (peaksE_32 es HT.o.e32));have HR32:=ZA HT.o.r32;obtain ⟨X,hX⟩:∃X,X=rootE es:=⟨_,rfl⟩;have HXE:=ZA hX;rw[←hX] at CR HX32;have HSX:=ZA (hash_size32 X HX32.o);have HSR:=ZA (hash_size32 R HR32.o);have HZX:=ZA (show zero32.size=(X.map u8v).length by rw[List.length_map,HX32.o];rfl);clear hiff hget h3 hX hpos hSn;go_wp2_with fail;refine CR.mono ?_;rintro e1 w6 ⟨rfl,hx6⟩;have HXA:=ZA (hx6.alloc (.cells (X.map u8v).toArray 33));have HWA:=ZA (HW.o.ext HXA.o);have HEA:=ZA (HEG.o.ext HXA.o);have HCX:=ZA (blk_cells (blk_alloc w6 (.cells (X.map u8v).toArray 33)));have HCR:Hid (∀t u,(R.map u8v)[t]? =some u→(w6.alloc (.cells (X.map u8v).toArray 33)).cell? ⟨p,2+t,none⟩=some u):=ZA (fun t u hu=> by rw[cell_of_blk HWA.o.pc];have hl:t < (R.map u8v).length:=(List.getElem?_eq_some_iff.1 hu).1;simp only[ckC,List.getElem?_toArray];rw[show 2+t=t+1+1 by omega,List.getElem?_cons_succ,List.getElem?_cons_succ,List.getElem?_append_left hl];exact hu)
    have HPC:=ZA (blk_cells HWA.o.pc);have HOS:Hid (over (ckC oL n R) 0 (ckC oL n R)=ckC oL n R):=ZA (over_all _ _ rfl);clear CR hx6;by_cases hXR:X=R
    ·have hne:(!decide (X=R))=false:=by simp[hXR]
     have HXR:=ZA hXR;clear hXR;go_wp2_with (first
      | (refine store_new rfl 33 _ _ rfl _ _ rfl (X.map u8v) rfl HSX.o HZX.o (u8_ones X) ?_)
      | (refine wpList_runG rfl (run_ldA _ rfl w6.heap.size 0 rfl (X.map u8v) Tryz.underlying33 rfl HSX.o HCX.o) ?_)
      | (refine wpList_runG rfl (run_ldA _ rfl p 2 rfl (R.map u8v) Tryz.underlying33 rfl HSR.o HCR.o) ?_)
      | (refine wpList_runG rfl (run_val (run_neqH _ rfl X R rfl rfl HX32.o HR32.o) (congrArg Value.bool hne)) ?_)
      | (refine wpList_loadAgg rfl 36 _ rfl p 0 rfl (ckC oL n R) Tryz.underlying36 rfl HCN.o HPC.o ?_)
      | (refine wpList_storeAgg rfl 36 _ _ rfl p 0 rfl (ckC oL n R) rfl HCN.o (ckC oL n R) 36 HWA.o.pc (by rw[Nat.zero_add];exact Nat.le_refl _) (ck_ones oL n R) ?_))
     rw[HOS.o];have HUE:=ZA ((Upd.refl (fun g=> g=p) (w6.alloc (.cells (X.map u8v).toArray 33))).setRow (g:=p) (.inr rfl) (ckC oL n R).toArray);exact bodyPost_ret (v:= .tuple #[ckV oL n R,.slice ev0 es.length evc,.nilIface]) (results_cell_three rfl _ _ p 36 _ (0,0) _ _ _ rfl rfl rfl (blk_setRow HWA.o.pc _) Tryz.underlying36 rfl HCN.o) rfl ⟨xk,true,HRK.o,HWA.o.st.offP HUE.o HPB.o.2.1 HPB.o.2.2.1 HTV.o,HWA.o.up.setRow (.inl HPB.o.1) _,.inl ⟨HXE.o▸HXR.o,_,vs,rfl,HEA.o.upd HUE.o (fun g _ e=> by cases (show g=p from e);exact ⟨_,HWA.o.pc,fun c f=> ⟨by simp,by simp⟩⟩)⟩⟩
    ·have hne:(!decide (X=R))=true:=by simp[hXR]
     have HXR:=ZA hXR;clear hXR;go_wp2_with (first
      | (refine store_new rfl 33 _ _ rfl _ _ rfl (X.map u8v) rfl HSX.o HZX.o (u8_ones X) ?_)
      | (refine wpList_runG rfl (run_ldA _ rfl w6.heap.size 0 rfl (X.map u8v) Tryz.underlying33 rfl HSX.o HCX.o) ?_)
      | (refine wpList_runG rfl (run_ldA _ rfl p 2 rfl (R.map u8v) Tryz.underlying33 rfl HSR.o HCR.o) ?_)
      | (refine wpList_runG rfl (run_val (run_neqH _ rfl X R rfl rfl HX32.o HR32.o) (congrArg Value.bool hne)) ?_))
     generalize w6.alloc (.cells (X.map u8v).toArray 33)=w9 at*;have HP9D:Hid (w9.drew.heap[p]? =some (.cells (ckC oL n R).toArray 36 (0,0))):=ZA HWA.o.pc;have g9:=HWA.o.en.g.cell 9 (by decide) (by decide);rw[show sv se 9= .iface 457 (.pointer (some (se 9))) from rfl] at g9;obtain ⟨a9,h9⟩:∃a,a=se 9:=⟨_,rfl⟩;have H9:=ZA h9;rw[←h9] at g9;have HG9D:Hid (w9.drew.cell? ⟨1,0,none⟩=some (.iface 457 (.pointer (some a9)))):=ZA g9;have HG9E:Hid ((w9.drew.setRow p (ckC [] 0 z32B).toArray).cell? ⟨1,0,none⟩=some (.iface 457 (.pointer (some a9)))):=ZA ((((Upd.refl (fun g=> g=p) w9).drew).setRow (g:=p) (.inr rfl) _).cellq g9 (fun e=> by have h1:=(HWA.o.en.g.low 9 (by decide) (by decide)).1;have h2:1=p:=e;have h3:=HPB.o;have h4:gno 9=1:=rfl;omega))
     have HPE:=ZA (blk_setRow HP9D.o (ckC [] 0 z32B).toArray);have HUE:Hid (Upd (fun g=> g=p) w9 (w9.drew.setRow p (ckC [] 0 z32B).toArray)):=ZA (((Upd.refl (fun g=> g=p) w9).drew).setRow (g:=p) (.inr rfl) _);clear g9 h9;refine wp_region_any (by kernel_rfl) ?_;refine any_seqM (t:=0) 2 (w9.drew.setRow p (ckC [] 0 z32B).toArray) [0,1,2,3,4] [_,_,_,_,_] (by kernel_rfl) rfl (by kernel_rfl) (by kernel_rfl) (by kernel_rfl) (by kernel_rfl) ?_;simp only[List.getElem_toArray,List.getElem_cons_succ,List.getElem_cons_zero];refine m_read (v:= .agg (ckC [] 0 z32B).toArray) rfl (by decide) (exec_build _ [] rfl [] _ rfl (run_zck _)) (exec_build _ [] rfl [] _ rfl (run_zck _)) ?_;refine m_norm (by go_simp;exact rfl) ?_;refine m_read (v:=(.iface 457 (.pointer (some a9)))) rfl (by decide) (run_ld1 _ rfl ⟨1,0,none⟩ _ rfl Tryz.underlying24 rfl HG9D.o) (run_ld1 _ rfl ⟨1,0,none⟩ _ rfl Tryz.underlying24 rfl HG9E.o) ?_;refine m_norm (by go_simp;exact rfl) ?_;refine m_store rfl ((run_storeAggAt 36 _ _ rfl p 0 rfl (ckC [] 0 z32B) rfl ck_zero35 (ckC oL n R) 36 HP9D.o (by rw[HZL.o.1];exact Nat.le_refl _) (ck_ones _ _ _)).trans (by rw[HOZ.o])) ?_;refine m_norm (by go_simp;exact rfl) ?_;refine m_read (v:= .slice none 0 0) rfl (by decide) (by go_simp) (by go_simp) ?_;refine m_norm (by go_simp;exact rfl) ?_;refine m_read (v:=(.iface 457 (.pointer (some a9)))) rfl (by decide) (by go_simp) (by go_simp) ?_;refine m_norm (by go_simp;exact rfl) ?_;refine m_nil ?_;refine wpAny_done (by kernel_rfl) ?_ _;go_wp2_with fail;exact bodyPost_ret (v:= .tuple #[ckV [] 0 z32B,.slice none 0 0,.iface 457 (.pointer (some a9))]) (results_cell_three rfl _ _ p 36 _ (0,0) _ _ _ rfl rfl rfl HPE.o Tryz.underlying36 rfl ck_zero35) rfl ⟨xk,true,HRK.o,HWA.o.st.offP HUE.o HPB.o.2.1 HPB.o.2.2.1 HTV.o,(HWA.o.up.drew).setRow (.inl HPB.o.1) _,.inr ⟨HXE.o▸HXR.o,by rw[H9.o]⟩⟩
def LvRes(se:Nat→Addr)(B:Nat)(R:HB)(ls:List (List UInt8))(e:Ending)(w':World):Bool→Prop
 | true=> (mthP (leafHs ls)=R∧∃lb lv,e= .returned (.tuple #[.pointer (some ⟨lb,0,none⟩),.nilIface])∧NvAt B w' lb lv ls)∨(mthP (leafHs ls)≠R∧e= .returned (.tuple #[.pointer none,sv se 9]))
 | false=> e= .returned (.tuple #[.pointer none,sv se 7])
def LeavesPost(se:Nat→Addr)(b mb:Nat)(tv:Value)(x:StD)(w:World)(R:HB)(es:List (List HB))(ls:List (List UInt8))(e:Ending)(w':World):Prop:=
 ∃x' ok,RdOut x (1+rdsE es+ls.length) x' ok∧StAt w' b mb tv x'∧Upd (one b) w w'∧LvRes se w.heap.size R ls e w' ok
def LvRel(w:World)(B b mb p q q1 q2 lb:Nat)(se:Nat→Addr)(tv:Value)(x:StD)(n:Nat)(R:HB)(es:List (List HB))(ls:List (List UInt8))(iv:Value)(wr:World):Prop:=
 ∃(i:Nat) (lv:Value) (xk:StD),i≤n∧iv= .int .u64 i∧NvAt w.heap.size wr lb lv (ls.take i)∧RdOut x (1+rdsE es+i) xk true∧HdW w B b mb p q q1 q2 se tv n R xk wr
theorem HdW.nv(h:HdW w B b mb p q q1 q2 se tv n R xk wr)(hB:B≤w.heap.size)(V:NvAt w.heap.size wr lb lv ls)(u:Upd (fun g=> g=lb∨lv.ownBlock=some g) wr w'):HdW w B b mb p q q1 q2 se tv n R xk w':=by
 have N:∀(g:Nat) (o:Obj),wr.heap[g]? =some o→(∀c f,o≠ .cells c 197 f∧o≠ .cells c 9 f)→¬(g=lb∨lv.ownBlock=some g):=fun g o hg hne e=> by
  rcases e with rfl | e
  ·rw[V.blk] at hg;exact (hne _ _).1 (Option.some.inj hg).symm
  ·obtain ⟨c,hc⟩:=rowT V.row e;rw[hc] at hg;exact (hne _ _).2 (Option.some.inj hg).symm
 have L:∀g,(g=lb∨lv.ownBlock=some g)→w.heap.size≤g:=fun g e=> by
  rcases e with rfl | e
  ·exact V.lo
  ·exact (V.row.lt g e).1
 obtain ⟨es,c,hm⟩:=h.st.tex.blk;exact ⟨u.blk h.pc (N p _ h.pc (by simp)),u.blk h.qc (N q _ h.qc (by simp)),h.gt.upd u (N q1 _ h.gt.b1 (by simp)) (N q2 _ h.gt.b2 (by simp)),
  h.st.upd u (N b _ h.st.blk (by simp)) (N mb _ hm (by simp)) (fun g hg=> by obtain ⟨c1,hc1⟩:=rowT h.st.row hg;exact N g _ hc1 (by simp)),h.en.upd u (fun g hg=> Nat.le_trans hB (L g hg)),h.up.then u (fun g hg e=> by have:=L g e;omega)⟩
theorem NvAt.rd{B0:Nat}(V:NvAt B0 w lb lv ls)(H:StAt w b mb tv x)(hq:w.heap[q]? =some (.cells #[.nilIface] 24 (0,0)))(u:Upd (two b q) w w'):NvAt B0 w' lb lv ls:=
 V.upd u (fun e=> by
  have h9:=V.blk;rcases e with e | e
  ·rw[e,H.blk] at h9;simp at h9
  ·rw[e,hq] at h9;simp at h9) (fun g hg e=> by
  obtain ⟨c,hc⟩:=rowT V.row hg;rcases e with e | e
  ·rw[e,H.blk] at hc;simp at hc
  ·rw[e,hq] at hc;simp at hc)
theorem rsleaves_any(E:Env B se w)(H:StAt w b mb tv x)(hB:B≤b)(T:HeadT x.texts ls.length R es)(hR:rootE es=R)(hlf:∀i s,ls[i]? =some s→lookL x.texts (leafN i)=some (str s))(hsz:∀s∈ls,s.length≤65536)(hd:x.dead=false)(hn:x.nr < 1099511627776)(hL:x.rs.length < 1099511627776):
 Calls Tryz.prog 11 #[.pointer (some ⟨b,0,none⟩)] w (LeavesPost se b mb tv x w R es ls):=by
 have C:=rshead_any E H hB T hd hn hL;have HBS:=ZA E.g.size;have HBB:=ZA hB;have HE:=ZA E;have HT:=ZA T;have HR:=ZA hR;have HLF:=ZA hlf;have HSZ:=ZA hsz;have HNL:=ZA (And.intro hd (And.intro hn hL));have HBL:=ZA (lt_of_blk H.blk);have HES:=ZA (show rdsE es≤3 from Nat.le_trans List.countP_le_length (fits_3 T.fit (by have:=T.n20;omega)));obtain ⟨n,hln⟩:∃n,n=ls.length:=⟨_,rfl⟩;have HLN:=ZA hln;have HN20:=ZA (show n≤1048576 by rw[hln];exact T.n20);rw[←hln] at C;clear E H T hR hlf hsz hd hn hL hB hln;go_enter Tryz.func11,Tryz.ntmps11;go_wp2_with fail;refine C.mono ?_;rintro e w1 ⟨x1,ok,hrd,hst,hu,hres⟩;have HRD:=ZA hrd;have HST:=ZA hst;have HU:=ZA hu;have HE1:=ZA (HE.o.upd hu (fun g hg=> by rw[show g=b from hg];exact HBB.o));clear C hrd hst hu;cases ok with
 | false=>
  unfold HdRes at hres;subst hres;rw[show sv se 7= .iface 457 (.pointer (some (se 7))) from rfl];obtain ⟨a7,h7⟩:∃a,a=se 7:=⟨_,rfl⟩;have H7:=ZA h7;rw[←h7];have HSZC:=ZA ck_zero35;clear h7;go_wp2_with (refine store_new rfl 36 _ _ rfl _ _ rfl (ckC [] 0 z32B) rfl HSZC.o rfl (ck_ones [] 0 z32B) ?_);have X:=(Upd.refl none' w1).alloc (.cells (ckC [] 0 z32B).toArray 36);go_ret2;exact ⟨x1,false,HRD.o.wide (by omega),HST.o.ext X,HU.o.thenExt X,by unfold LvRes;rw[H7.o];rfl⟩
 | true=>
  unfold HdRes at hres;obtain ⟨-,ev,vs,rfl, -⟩:_∧_:=by
   rcases hres with h | h
   ·exact h
   ·exact absurd HR.o h.1
  have HSN:=ZA (ck_size35 oL n R HT.o.r32);have HLC:Hid (zckA.size=(ckC oL n R).length):=ZA (by rw[ck_len oL n R HT.o.r32];rfl);obtain ⟨p,hp⟩:∃p,p=w1.heap.size:=⟨_,rfl⟩;have HP2:Hid ((w1.alloc (.cells (ckC oL n R).toArray 36)).heap[p]? =some (.cells (ckC oL n R).toArray 36 (0,0))):=ZA (by rw[hp];exact blk_alloc _ _);have HX2:=ZA ((Upd.refl none' w1).alloc (.cells (ckC oL n R).toArray 36));have HP:=ZA hp;go_wp2_with (refine store_new rfl 36 _ _ rfl _ _ rfl (ckC oL n R) rfl HSN.o HLC.o (ck_ones oL n R) ?_);rw[←hp];obtain ⟨q,hq⟩:∃q,q=p+1:=⟨_,rfl⟩;have HQ3:Hid (((w1.alloc (.cells (ckC oL n R).toArray 36)).alloc (.cells #[.nilIface] 24)).heap[q]? =some (.cells #[.nilIface] 24 (0,0))):=ZA (by have h:=blk_alloc (w1.alloc (.cells (ckC oL n R).toArray 36)) (.cells #[.nilIface] 24);rwa [World.size_alloc,←hp,←hq] at h)
  have HX3:=ZA (HX2.o.alloc (.cells #[.nilIface] 24));have HP3:Hid (((w1.alloc (.cells (ckC oL n R).toArray 36)).alloc (.cells #[.nilIface] 24)).heap[p]? =some (.cells (ckC oL n R).toArray 36 (0,0))):=ZA (blk_alloc_lt HP2.o _);have HPQ:Hid (w.heap.size≤p∧p < q∧b < p∧B≤q):=ZA (by have h1:=HU.o.size;have h2:=HBL.o;have h3:=HBS.o;omega)
  rw[←hq];generalize (w1.alloc (.cells (ckC oL n R).toArray 36)).alloc (.cells #[.nilIface] 24)=w3 at*;clear hp hq;refine (getter_any w3 b q).mono ?_;rintro e w4 ⟨q1,q2,rfl,hgt,hq1,hq2,hx4⟩;have HX4:=ZA (HX3.o.trans hx4);have HD4:Hid (HdW w B b mb p q q1 q2 se tv n R x1 w4):=ZA ⟨Ext.blk hx4 HP3.o,Ext.blk hx4 HQ3.o,hgt,HST.o.ext HX4.o,HE1.o.ext HX4.o,HU.o.thenExt HX4.o⟩;have CN:=nnew_any w4;clear hgt hq1 hq2 hx4;go_wp2_with fail;refine CN.mono ?_;rintro e w5 ⟨rfl,hnv,hx5⟩;obtain ⟨lb,hlb⟩:∃lb,lb=w4.heap.size:=⟨_,rfl⟩;have HD5:=ZA (HD4.o.ext hx5);have HNV:=ZA (hnv.low (B':=w.heap.size) (HD4.o.up.size));rw[←hlb] at HNV⊢;have c1:w5.cell? ⟨p,1,none⟩=some (.int .u64 n):=cell_of_blk HD5.o.pc 1;clear CN hnv hx5 hlb;go_wp2_with fail;clear c1;go_loopw [30] (fun iv wr=> LvRel w B b mb p q q1 q2 lb se tv x n R es ls iv wr) (fun iv _=> n - (RowKit.intOf iv).toNat);case atStart=> exact ⟨0,_,x1,Nat.zero_le _,rfl,HNV.o,HRD.o,HD5.o⟩
  case round=>
   obtain ⟨i,lv,xk,hi,rfl,hnv,hrd,hw⟩:=hrel;have HV:=ZA hnv;have HRK:=ZA hrd;have HW:=ZA hw;have HI:=ZA hi;clear hnv hrd hw;by_cases hlt:i < n
   ·have hlti:(i:Int) < n:=by omega
    have hib:i < 1048576:=by have:=HN20.o;omega
    obtain ⟨s,hs⟩:∃s,ls[i]? =some s:=⟨_,List.getElem?_eq_getElem (by rw[←HLN.o];exact hlt)⟩;have HLK:=ZA (HLF.o i s hs);have HS:=ZA (HSZ.o s (List.mem_of_getElem? hs));have HTK:Hid (ls.take (i+1)=ls.take i++ [s]):=ZA (by rw[List.take_add_one,hs];rfl);have HTL:Hid ((ls.take i).length=i):=ZA (by rw[List.length_take];have:=HLN.o;omega);have CF:=leaf_any i (by omega) wr HW.o.en.t10;rw[show str leafB++str (Lib.decDigits i)=leafN i from rfl] at CF;have HNM:=ZA (leafN_ok i (by omega));have hwi:IntKind.u64.wrap ((i:Int)+1)=((i+1:Nat):Int):=by rw[IntKind.wrap_u64];omega
    have HLT:=ZA hlt;clear hs hlt hi;generalize leafN i=nm at*;go_wp2_with fail;refine CF.mono ?_;rintro e1 w6 ⟨rfl,hx6⟩;have HW6:=ZA (HW.o.ext hx6);have HV6:=ZA (HV.o.ext hx6);obtain ⟨s1,s2,s3,s4,s5,s6,s7⟩:=HRK.o.same;have hes:=HES.o;have CG:=getter1_any HW6.o.en.g HW6.o.st HBB.o HPQ.o.2.2.2 HW6.o.gt HW6.o.qc HNM.o (s5.trans HNL.o.1) (by have:=HNL.o.2.1;have:=HN20.o;have:=HI.o;omega) (by rw[s2];have:=HNL.o.2.2;omega) (by rw[s1];exact HLK.o);clear CF hx6 s1 s2 s3 s4 s5 s6 s7 hes;generalize hxr:xk.rd=rd at*;have HXR:=ZA hxr;clear hxr;cases rd with
    | true=>
     simp only[if_true] at CG;rw[show sv se 7= .iface 457 (.pointer (some (se 7))) from rfl] at CG;obtain ⟨a7,h7⟩:∃a,a=se 7:=⟨_,rfl⟩;have H7:=ZA h7;rw[←h7] at CG;clear h7;go_wp2_with fail;refine CG.mono ?_;rintro e3 w9 ⟨rfl,hst,hq9,hgt9,hu⟩;have HST9:=ZA hst;have HUW9:Hid (Upd (one b) w w9):=ZA (HW6.o.up.then hu (fun g hg e=> by
      rcases e with e | e
      ·exact e
      ·have:=HPQ.o;omega))
     have cq:w9.cell? ⟨q,0,none⟩=some (.iface 457 (.pointer (some a7))):=cell_of_blk hq9 0;clear CG hst hq9 hgt9 hu;go_wp2_with fail;go_quiet (fail);go_wp2_with fail;go_ret2;exact ⟨xk.on 1,false,HRK.o.fail HXR.o (by have:=HLT.o;have:=HLN.o;omega),HST9.o.ext ((Upd.refl _ _).drewN _),HUW9.o.thenExt ((Upd.refl _ _).drewN _),by unfold LvRes;rw[H7.o];rfl⟩
    | false=>
     simp only[Bool.false_eq_true,if_false] at CG;go_wp2_with fail;refine CG.mono ?_;rintro e3 w9 ⟨rfl,hst,hq9,hgt9,hu⟩;have HV9:=ZA (HV6.o.rd HW6.o.st HW6.o.qc hu);have HW9:Hid (HdW w B b mb p q q1 q2 se tv n R (xk.on 1) w9):=ZA ⟨hu.blk HW6.o.pc (fun e=> by have:=HPQ.o;rcases e with e | e <;> omega),hq9,hgt9,hst,HW6.o.en.upd hu (fun g e=> by have:=HBB.o;have:=HPQ.o;rcases e with e | e <;> omega),HW6.o.up.then hu (fun g hg e=> by
      rcases e with e | e
      ·exact e
      ·have:=HPQ.o;omega)⟩
     have cq:w9.cell? ⟨q,0,none⟩=some .nilIface:=cell_of_blk hq9 0;have CA:=nappend_any HV9.o s HS.o (by rw[HTL.o];exact hib);rw[HTL.o] at CA;clear CG hst hq9 hgt9 hu;go_wp2_with fail;refine CA.mono ?_;rintro e4 wd ⟨rfl,⟨lv2,hnv⟩,hxd⟩;have HVD:=ZA hnv;have HWD:=ZA (HW9.o.nv HBS.o HV9.o hxd);clear CA cq hxd hnv;go_wp2_with fail;have hlt:=HLT.o;refine ⟨⟨i+1,lv2,xk.on 1,by omega,by first | rfl | (simp <;> omega),by rw[HTK.o];exact HVD.o,HRK.o.more HXR.o,HWD.o⟩,?_⟩;simp[RowKit.intOf];omega
   ·have hin:i=n:=by omega
    subst hin;have hlti:¬(i:Int) < i:=by omega
    have HVF:Hid (NvAt w.heap.size wr lb lv ls):=ZA (by have h:=HV.o;rwa [HLN.o,List.take_length] at h);have HRF:Hid (RdOut x (1+rdsE es+ls.length) xk true):=ZA (by rw[←HLN.o];exact HRK.o);have CR:=nroot_any HVF.o i (by rw[HLN.o];exact Nat.le_refl _) HW.o.en.sgw HW.o.en.sh;rw[show mthP (segH ls 0 i)=mthP (leafHs ls) by rw[HLN.o,segH_all]] at CR;have HX32:=ZA (root_len ls);have HR32:=ZA HT.o.r32;obtain ⟨X,hX⟩:∃X,X=mthP (leafHs ls):=⟨_,rfl⟩;have HXE:=ZA hX;rw[←hX] at CR HX32;have HSX:=ZA (hash_size32 X HX32.o);have HSR:=ZA (hash_size32 R HR32.o);have HZX:=ZA (show zero32.size=(X.map u8v).length by rw[List.length_map,HX32.o];rfl);have c1:wr.cell? ⟨p,1,none⟩=some (.int .u64 i):=cell_of_blk HW.o.pc 1;clear hX hlt hi;go_wp2_with fail;refine CR.mono ?_;rintro e1 w6 ⟨rfl,hx6⟩;have HXA:=ZA (hx6.alloc (.cells (X.map u8v).toArray 33));have HWA:=ZA (HW.o.ext HXA.o);have HVA:=ZA (HVF.o.ext HXA.o);have HCX:=ZA (blk_cells (blk_alloc w6 (.cells (X.map u8v).toArray 33)));have HCR:Hid (∀t u,(R.map u8v)[t]? =some u→(w6.alloc (.cells (X.map u8v).toArray 33)).cell? ⟨p,2+t,none⟩=some u):=ZA (fun t u hu=> by rw[cell_of_blk HWA.o.pc];have hl:t < (R.map u8v).length:=(List.getElem?_eq_some_iff.1 hu).1;simp only[ckC,List.getElem?_toArray];rw[show 2+t=t+1+1 by omega,List.getElem?_cons_succ,List.getElem?_cons_succ,List.getElem?_append_left hl];exact hu)
    clear CR hx6 c1;by_cases hXR:X=R
    ·have hne:(!decide (X=R))=false:=by simp[hXR]
     have HXR:=ZA hXR;clear hXR;go_wp2_with (first
      | (refine store_new rfl 33 _ _ rfl _ _ rfl (X.map u8v) rfl HSX.o HZX.o (u8_ones X) ?_)
      | (refine wpList_runG rfl (run_ldA _ rfl w6.heap.size 0 rfl (X.map u8v) Tryz.underlying33 rfl HSX.o HCX.o) ?_)
      | (refine wpList_runG rfl (run_ldA _ rfl p 2 rfl (R.map u8v) Tryz.underlying33 rfl HSR.o HCR.o) ?_)
      | (refine wpList_runG rfl (run_val (run_neqH _ rfl X R rfl rfl HX32.o HR32.o) (congrArg Value.bool hne)) ?_))
     go_ret2;exact ⟨xk,true,HRF.o,HWA.o.st,HWA.o.up,.inl ⟨HXE.o▸HXR.o,lb,lv,rfl,HVA.o⟩⟩
    ·have hne:(!decide (X=R))=true:=by simp[hXR]
     have HXR:=ZA hXR;clear hXR;have g9:(w6.alloc (.cells (X.map u8v).toArray 33)).cell? ⟨1,0,none⟩=some (sv se 9):=HWA.o.en.g.cell 9 (by decide) (by decide);rw[show sv se 9= .iface 457 (.pointer (some (se 9))) from rfl] at g9;obtain ⟨a9,h9⟩:∃a,a=se 9:=⟨_,rfl⟩;have H9:=ZA h9;rw[←h9] at g9;clear h9;go_wp2_with (first
      | (refine store_new rfl 33 _ _ rfl _ _ rfl (X.map u8v) rfl HSX.o HZX.o (u8_ones X) ?_)
      | (refine wpList_runG rfl (run_ldA _ rfl w6.heap.size 0 rfl (X.map u8v) Tryz.underlying33 rfl HSX.o HCX.o) ?_)
      | (refine wpList_runG rfl (run_ldA _ rfl p 2 rfl (R.map u8v) Tryz.underlying33 rfl HSR.o HCR.o) ?_)
      | (refine wpList_runG rfl (run_val (run_neqH _ rfl X R rfl rfl HX32.o HR32.o) (congrArg Value.bool hne)) ?_))
     go_quiet (fail);go_wp2_with fail;go_ret2;exact ⟨xk,true,HRF.o,HWA.o.st.ext ((Upd.refl _ _).drewN _),HWA.o.up.thenExt ((Upd.refl _ _).drewN _),.inr ⟨HXE.o▸HXR.o,by rw[H9.o];rfl⟩⟩
theorem sw_create0(E:Env B se w)(H:StAt w b mb tv ⟨[],[],0,0,0,false⟩)(hB:B≤b)(hM:B≤mb):
 Calls Tryz.prog 19 #[.pointer (some ⟨b,0,none⟩),.string (str oL)] w fun e w'=> ∃wb x,e= .returned (.tuple #[.pointer (some ⟨wb,0,none⟩),.nilIface])∧SW B w' b mb wb tv x [] false∧Live x []∧x.nw=1∧x.nr=0∧Upd (two b mb) w w'∧w.heap.size≤wb:=by
 have hp:StD.put ⟨[],[],0,0,0,false⟩ (str headB) (str (ckptB oL 0 emptyH))=(⟨[(str headB,str (ckptB oL 0 emptyH))],[],0,0,1,false⟩,none):=by have h9:=put_fine (x:=⟨[],[],0,0,0,false⟩) rfl (p:=(str headB,str (ckptB oL 0 emptyH))) (show 1≤(str headB).size∧(str headB).size≤256 by decide) (show (0:Int)≠((0:Nat):Int)+1 by decide) (show (0:Int)≠ -(((0:Nat):Int)+1) by decide);exact h9
 refine (create_ok E H hB hM oL name_log (by decide) (by decide) (has_none _ _ _ _ _) (by decide) emptyH rfl).mono ?_;rintro e w' ⟨h1,h2,h3⟩;rw[hp] at h1 h3;obtain ⟨wb,rfl,hw,hlo⟩:=h3;have hsz:=E.g.size;exact ⟨wb,_,rfl,⟨h1,⟨hB,hM,Nat.le_trans hsz hlo⟩,.slice none 0 0,[],hw,⟨World.ownsRow_nil _ _ _ _,fun k=> World.ownsRow_nil _ _ _ _⟩⟩,⟨holds_nil oL emptyH rfl,rfl,rfl,rfl,Nat.le_refl _⟩,rfl,rfl,h2,hlo⟩
def lsC:List (List UInt8):= [[97],[98],[99]]
theorem lsC_cells(w:World):CellsAt (w.alloc (.cells #[.string ⟨#[97]⟩,.string ⟨#[98]⟩,.string ⟨#[99]⟩] 9)) (some ⟨w.heap.size,0,none⟩) (strC lsC):=fun j v hv=> by
 refine ⟨_,rfl,?_⟩;have h:=cell_of_blk (blk_alloc w (.cells #[.string ⟨#[97]⟩,.string ⟨#[98]⟩,.string ⟨#[99]⟩] 9)) j;rw[Addr.add_lit,Nat.zero_add,h];rcases j with _ | _ | _ | j
 ·exact hv
 ·exact hv
 ·exact hv
 ·simp[strC,lsC] at hv
theorem small_any(E:Env B se w):Calls Tryz.prog 8 #[] w fun e w'=> ∃b mb tv x,e= .returned (.pointer (some ⟨b,0,none⟩))∧StAt w' b mb tv x∧Live x lsC∧(x.nr=0∧x.nw≤100)∧w.heap.size≤b∧w.heap.size≤mb∧Ext w w':=by
 have CN:=new_ok w none [] 0 0 (RdsAt.nil _ _) (by decide) (by decide);have HE:=ZA E;have HB:=ZA E.g.size;clear E;go_enter Tryz.func8,Tryz.ntmps8;go_wp2_with fail;refine CN.mono ?_;rintro e w1 ⟨b,mb,tv,rfl,hst,hb,hm,hx1⟩;have HX1:=ZA hx1;have HBM:=ZA (And.intro hb hm);have CC:=sw_create0 (HE.o.ext hx1) hst (Nat.le_trans HB.o hb) (Nat.le_trans HB.o hm);rw[show str oL=⟨#[108,111,103]⟩ from rfl] at CC;clear CN hst hb hm hx1;go_wp2_with fail;refine CC.mono ?_;rintro e w2 ⟨wb,x,rfl,hsw,hlv,hnw,hnr,hu,hwb⟩;have HSW:=ZA hsw;have HX2:Hid (Ext w w2):=ZA (HX1.o.then hu (fun g hg e=> by have:=HBM.o;rcases e with e | e <;> omega));have HWB:Hid (w.heap.size≤wb):=ZA (Nat.le_trans HX1.o.size hwb);have HL2:=ZA (And.intro hlv (And.intro hnw hnr));have X3:=(Upd.refl none' w2).alloc (.cells #[.string ⟨#[97]⟩,.string ⟨#[98]⟩,.string ⟨#[99]⟩] 9);have HLT:Hid (b < w2.heap.size∧mb < w2.heap.size∧wb < w2.heap.size):=ZA (by obtain ⟨ev,vs,hw, -⟩:=hsw.wr;obtain ⟨es,c,hm⟩:=hsw.st.tex.blk;exact ⟨lt_of_blk hsw.st.blk,lt_of_blk hm,lt_of_blk hw.blk⟩)
 have CA:=sw_append (ls:=lsC) (HE.o.ext (HX2.o.trans X3)) (hsw.ext X3) hlv (some ⟨w2.heap.size,0,none⟩) 3 (lsC_cells w2) (.inr ⟨_,_,rfl⟩) (fun ad had=> by obtain rfl:=Option.some.inj had;have h:=HLT.o;refine ⟨?_,?_,?_⟩ <;> (show w2.heap.size≠_;omega)) (by decide) (by decide) (by decide) (by rw[hnw];decide)
 change Calls _ _ #[_,.slice _ 3 _] _ _ at CA;have HX3:=ZA (HX2.o.trans X3);rw[List.nil_append] at CA;have HSR:=ZA (ck_size35 oL lsC.length (mthP (leafHs lsC)) (root_len lsC));have HCL:=ZA (ck_len oL lsC.length (mthP (leafHs lsC)) (root_len lsC));clear CC hsw hlv hnw hnr hu hwb X3;go_wp2_with fail;refine CA.mono ?_;rintro e w4 ⟨x',rfl,hsw,hlv,hnw,hnr,hu⟩;have HX4:Hid (Ext w w4):=ZA (HX3.o.then hu (fun g hg e=> by have h1:=HBM.o;have h2:=HWB.o;rcases e with e | e | e <;> omega));have HF:=ZA (And.intro hsw.st (And.intro hlv (And.intro (hnr.trans HL2.o.2.2) (show x'.nw≤100 by rw[hnw,HL2.o.2.1];decide))));clear CA hsw hlv hnw hnr hu;go_wp2_with (refine store_new rfl 36 _ _ rfl _ _ rfl (ckC oL lsC.length (mthP (leafHs lsC))) rfl HSR.o (by rw[HCL.o];rfl) (ck_ones _ _ _) ?_);go_ret;have X5:=(Upd.refl none' w4).alloc (.cells (ckC oL lsC.length (mthP (leafHs lsC))).toArray 36);exact ⟨b,mb,tv,x',rfl,HF.o.1.ext X5,HF.o.2.1,HF.o.2.2,HBM.o.1,HBM.o.2,HX4.o.trans X5⟩
def fitsL(ls:List (List UInt8)):Bool:=decide (ls.length≤4096) && ls.all (fun s=> decide (s.length≤65536))
theorem fits26_any(h:TextsAt w a (strs ls))(ca:Nat)(hl:ls.length≤9223372036854775807):
 Calls Tryz.prog 18 #[.slice a ls.length ca] w fun e w'=> e= .returned (.bool (fitsL ls))∧w=w':=by
 have HT:=ZA h;by_cases h4:ls.length≤4096
 ·have h4i:¬(4096:Int) < ls.length:=by omega
  have HF:Hid (fitsL ls=ls.all (fun s=> decide (s.length≤65536))):=ZA (by unfold fitsL;rw[decide_eq_true h4,Bool.true_and]);obtain ⟨n,hn⟩:∃n,n=ls.length:=⟨_,rfl⟩;have HN:=ZA hn;rw[←hn] at h4i⊢;have h4n:n≤4096:=by omega
  obtain ⟨r,hr⟩:∃r,r=fitsL ls:=⟨_,rfl⟩;have HR:=ZA hr;rw[←hr];clear h hl hn h4 hr;go_enter Tryz.func18,Tryz.ntmps18;go_wp2_with fail;go_loopw [3] (fun iv wr=> ∃i:Nat,i≤n∧iv= .int .i64 i∧(∀s∈ls.take i,s.length≤65536)∧w=wr) (fun iv _=> n - (RowKit.intOf iv).toNat);case atStart=> exact ⟨0,Nat.zero_le _,rfl,fun s hs=> by simp at hs,rfl⟩
  case round=>
   obtain ⟨i,hi,rfl,hall,rfl⟩:=hrel;have HA:=ZA hall;clear hall;by_cases hlt:i < n
   ·have hlti:(i:Int) < n:=by omega
    obtain ⟨s,hs⟩:∃s,ls[i]? =some s:=⟨_,List.getElem?_eq_getElem (by rw[←HN.o];exact hlt)⟩;have HS:=ZA hs;obtain ⟨_,b,o,rfl,hc⟩:=HT.o i (str s) (by unfold strs;rw[List.getElem?_map,hs];rfl);have hsz:(str s).size=s.length:=str_size s;have hwi:IntKind.i64.wrap ((i:Int)+1)=((i+1:Nat):Int):=(IntWalk.i64_in _ (by omega)).trans (by omega);have HLT:=ZA hlt;clear hs hlt hi;by_cases hok:s.length≤65536
    ·have hoki:¬(65536:Int) < s.length:=by omega
     have HOK:=ZA hok;clear hok;go_wp2_with fail;have hlt:=HLT.o;refine ⟨⟨i+1,by omega,by first | rfl | (simp <;> omega),fun s' hs'=> ?_,by first | rfl | trivial⟩,by simp[RowKit.intOf] <;> omega⟩;rw[List.take_add_one,HS.o] at hs';rcases List.mem_append.1 hs' with h9 | h9
     ·exact HA.o s' h9
     ·rw[List.mem_singleton.1 h9];exact HOK.o
    ·have hoki:(65536:Int) < s.length:=by omega
     have HOK:=ZA hok;clear hok;go_wp2_with fail;go_ret;refine ⟨?_,by first | rfl | trivial⟩;rw[HR.o,HF.o,List.all_eq_false.2 ⟨s,List.mem_of_getElem? HS.o,by simpa using HOK.o⟩];rfl
   ·have hlti:¬(i:Int) < n:=by omega
    have hin:i=n:=by omega
    have HIN:=ZA hin;clear hlt hi hin;go_wp2_with fail;go_ret;refine ⟨?_,by first | rfl | trivial⟩;rw[HR.o,HF.o,List.all_eq_true.2 (fun s hs=> by have h9:=HA.o;rw[HIN.o,HN.o,List.take_length] at h9;simpa using h9 s hs)]
    rfl
 ·have h4i:(4096:Int) < ls.length:=by omega
  have HF:Hid (fitsL ls=false):=ZA (by unfold fitsL;rw[decide_eq_false h4];rfl);clear h h4;go_enter Tryz.func18,Tryz.ntmps18;go_wp2_with fail;go_ret;exact ⟨by rw[HF.o];rfl,rfl⟩
theorem ck_field1:∃f:Field,(match Tryz.prog.underlying 36 with | some (.struct fs)=> fs[1]? | _=> none)=some f∧f.type=31∧f.offset=1:=by
 have h:((match Tryz.prog.underlying 36 with | some (.struct fs)=> fs[1]? | _=> none).map fun (f:Field)=> (f.type,f.offset))=some (31,1):=by kernel_rfl
 cases hq:(match Tryz.prog.underlying 36 with | some (.struct fs)=> fs[1]? | _=> none) with
 | none=> rw[hq] at h;cases h
 | some f=>
  rw[hq] at h;simp only[Option.map_some,Option.some.injEq,Prod.mk.injEq] at h;exact ⟨f,rfl,h.1,h.2⟩
theorem run_field1{op:Oper}{a:Act}(w:World){x:Operand}(ho:op.op= .field 36 x 1)(n:Nat)(root:HB)(hx:a.eval x=ckV oL n root):(execOp a.eval op).run Tryz.prog w= .ok (.value (.int .u64 n)) w:=by
 obtain ⟨f,hf,h1,h2⟩:=ck_field1;cases hu:Tryz.prog.underlying 36 with
 | none=> rw[hu] at hf;cases hf
 | some d=>
  rw[hu] at hf;cases d with
  | struct fs=>
   have hf:fs[1]? =some f:=hf;have hx2:(ckC oL n root).toArray[1]? =some (.int .u64 n):=by unfold ckC;rfl
   have hp:(part 31 (ckC oL n root).toArray 1).run Tryz.prog w= .ok (.int .u64 n) w:=by simp[part,isAgg,run_underlying Tryz.underlying31,hx2]
   have h9:(Instr.field 36 (ckV oL n root) 1).run Tryz.prog w= .ok (.int .u64 n) w:=by simp only[Instr.field,Sem.run_bind,run_underlying hu,Result.andThen_ok,hf,asAgg,Sem.run_pure,h1,h2,hp]
   simp only[execOp,ho,hx,Sem.run_bind,h9,Result.andThen_ok];rfl
  | _=> cases hf
theorem run_make_st(k:Nat)(hk:k≤1048576)(u:World):(Instr.makeSlice 34 (.int .i64 k) (.int .i64 k)).run Tryz.prog u= .ok (.slice (some ⟨u.heap.size,0,none⟩) k k) (u.alloc (.cells (strC (List.replicate k [])).toArray 9)):=by
 obtain ⟨i0,hi,hz0,hz1,hz2⟩:=info_parts info_string';have h:=run_make (P:=Tryz.prog) u 34 9 i0 (.string ⟨#[]⟩) Tryz.underlying34 hi hz0 .i64 .i64 (k:Int) (k:Int) (by omega) (Int.le_refl _) (by rw[hz2];omega) (by omega);have e:madeCells #[Value.string ⟨#[]⟩] k=(strC (List.replicate k [])).toArray:=by apply Array.ext';rw[toList_madeCells_one];simp[strC]
 rw[hz1,Int.toNat_natCast,Nat.mul_one] at h;rw[h];show Result.ok _ (u.alloc (.cells (madeCells #[Value.string ⟨#[]⟩] k) 9))=_;rw[e]
theorem exec_mkst{o:Oper}{a:Act}(w:World){x y:Operand}(ho:o.op= .makeSlice 34 x y)(k:Nat)(hk:k≤1048576)(hx:a.eval x= .int .i64 k)(hy:a.eval y= .int .i64 k)(hc:cs=(strC (List.replicate k [])).toArray):(execOp a.eval o).run Tryz.prog w= .ok (.value (.slice (some ⟨w.heap.size,0,none⟩) k k)) (w.alloc (.cells cs 9)):=by subst hc;simp only[execOp,ho,hx,hy,Sem.run_bind,run_make_st k hk,Result.andThen_ok];rfl
theorem cells_alloc(w:World)(l:List Value)(t:TypeId)(hc:cs=l.toArray):CellsAt (w.alloc (.cells cs t)) (some ⟨w.heap.size,0,none⟩) l:=fun j v hv=> by subst hc;refine ⟨_,rfl,?_⟩;rw[Addr.add_lit,Nat.zero_add,cell_of_blk (blk_alloc w (.cells l.toArray t)) j,List.getElem?_toArray];exact hv
theorem SW.lts(h:SW B w b mb wb tv x ls ended):b < w.heap.size∧mb < w.heap.size∧wb < w.heap.size:=by obtain ⟨ev,vs,hw, -⟩:=h.wr;obtain ⟨es,c,hm⟩:=h.st.tex.blk;exact ⟨lt_of_blk h.st.blk,lt_of_blk hm,lt_of_blk hw.blk⟩
def doneN(i n:Nat):Nat:=min (4096*i) n
def LaRel(w:World)(b mb wb n:Nat)(tv nv:Value)(wr:World):Prop:=
 ∃(i:Nat) (x:StD),i≤256∧nv= .int .i64 ((n - doneN i n:Nat):Int)∧SW w.heap.size wr b mb wb tv x (List.replicate (doneN i n) []) false∧Live x (List.replicate (doneN i n) [])∧x.nw≤1+i*1073741824∧Ext w wr
theorem last_any{sp ev:Value}{root:HB}(E:Env B se w)(H:WrAt w wb sp oL n root ev ended)(hr:root.length=32)(hn:n+ls.length≤1048576)(A:Option Addr)(c:Nat)(hc:CellsAt w A (strC ls))(hA:A=none∨∃g o,A=some ⟨g,o,none⟩)(hAn:∀ad,A=some ad→ad.block < w.heap.size)(h4:ls.length≤4096)(hsz:∀s∈ls,s.length≤65536)(k:Int):
 Calls Tryz.prog 34 #[.pointer (some ⟨wb,0,none⟩),.slice A ls.length c,.int .i64 k] w fun e w'=> e= .returned (.bool (decide (((putsN n (n+ls.length):Nat):Int)=k)))∧Ext w w':=by
 have CN:=new_ok w none [] 0 0 (RdsAt.nil _ _) (by decide) (by decide);have HPN:Hid (putsN n (n+ls.length)≤1073741824):=ZA (putsN_le (Nat.le_add_right _ _) hn);have HE:=ZA E;have HB:=ZA E.g.size;have HW:=ZA H;have HR:=ZA hr;have HC:=ZA hc;have HA:=ZA hA;have HAN:=ZA hAn;have HS:=ZA hsz;obtain ⟨N,hN⟩:∃N,N=putsN n (n+ls.length):=⟨_,rfl⟩;have HNN:=ZA hN;rw[←hN] at HPN⊢;obtain ⟨m,hm⟩:∃m,m=ls.length:=⟨_,rfl⟩;have HM:=ZA hm;rw[←hm] at hn h4⊢;have HHN:=ZA hn;have HH4:=ZA h4;clear E H hr hc hA hAn hsz hN hm hn h4;go_enter Tryz.func34,Tryz.ntmps34;go_wp2_with fail;refine CN.mono ?_;rintro e w1 ⟨b,mb,tv,rfl,hst,hb,hm,hx1⟩;have HX1:=ZA hx1;have HBM:=ZA (And.intro hb hm);have HST1:=ZA hst;have CK:=ckp_any (HW.o.ext hx1) HR.o;have HCF:Hid ((ckC oL n root).toArray[1]? =some (.int .u64 n)):=ZA rfl;clear CN hst hb hm hx1;go_wp2_with fail;refine CK.mono ?_;rintro e w2 ⟨rfl,hx2⟩;have HX2:=ZA (HX1.o.trans hx2);have HLE:Hid (w.heap.size≤w2.heap.size):=ZA HX2.o.size;have CC:=sw_create0 ((HE.o.up HB.o (Nat.le_refl _)).ext HX2.o) (HST1.o.ext hx2) HBM.o.1 HBM.o.2;rw[show str oL=⟨#[108,111,103]⟩ from rfl] at CC;have hw1:IntKind.i64.wrap (n:Int)=(n:Int):=IntWalk.i64_in _ (by have:=HHN.o;omega);clear CK hx2;go_wp2_with (refine wpList_runG rfl (run_field1 _ rfl n root rfl) ?_);refine CC.mono ?_;rintro e w3 ⟨vb,x0,rfl,hsw,hlv,hnw,hnr,hu,hwb⟩;have HSW:=ZA hsw;have HL0:=ZA (And.intro hlv hnw);have HX3:Hid (Ext w w3):=ZA (HX2.o.then hu (fun g hg e=> by have:=HBM.o;rcases e with e | e <;> omega));have HBW:Hid (w.heap.size≤b∧w.heap.size≤mb∧w.heap.size≤vb):=ZA ⟨HBM.o.1,HBM.o.2,Nat.le_trans HLE.o hwb⟩;clear CC hsw hlv hnw hnr hu hwb hw1;go_wp2_with fail;go_loopw [9] (fun nv wr=> LaRel w b mb vb n tv nv wr) (fun nv _=> (RowKit.intOf nv).toNat);case atStart=> exact ⟨0,x0,by decide,by simp[doneN],by simpa[doneN] using HSW.o,by simpa[doneN] using HL0.o.1,by have:=HL0.o.2;omega,HX3.o⟩
 case round=>
  obtain ⟨i,x,hi,rfl,hsw,hlv,hnw,hx⟩:=hrel;have HI:=ZA (And.intro hi hnw);have HSW:=ZA hsw;have HLV:=ZA hlv;have HX:=ZA hx;clear hi hsw hlv hnw hx;have HDE:Hid (doneN i n=min (4096*i) n):=ZA rfl;generalize doneN i n=d at*;have hdn:d≤n:=by have:=HDE.o;omega
  by_cases hlt:d < n
  ·have hpos:(0:Int) < ((n - d:Nat):Int):=by omega
   obtain ⟨q,hq⟩:∃q,q=min (n - d) 4096:=⟨_,rfl⟩;have HQ:=ZA hq;have hmin:min ((n - d:Nat):Int) 4096=(q:Int):=by omega
   have HLT:=ZA (And.intro hlt hdn);have HMK:Hid (q≤1048576):=ZA (by have:=HHN.o;omega);obtain ⟨cs,hcs⟩:∃cs,cs=(strC (List.replicate q [])).toArray:=⟨_,rfl⟩;have HCS:=ZA hcs;have X4:=(Upd.refl none' wr).alloc (.cells cs 9);have CA:=sw_append (ls:=List.replicate q []) ((HE.o.up HB.o (Nat.le_refl _)).ext (HX.o.trans X4)) (HSW.o.ext X4) HLV.o (some ⟨wr.heap.size,0,none⟩) q (cells_alloc wr _ _ hcs) (.inr ⟨_,_,rfl⟩) (fun ad had=> by obtain rfl:=Option.some.inj had;have h:=HSW.o.lts;refine ⟨?_,?_,?_⟩ <;> (show wr.heap.size≠_;omega)) (by rw[List.length_replicate];omega) (by rw[List.length_replicate,List.length_replicate];have:=HHN.o;omega) (fun s hs=> by rw[(List.mem_replicate.1 hs).2];decide) (by have:=HI.o;omega)
   rw[List.length_replicate] at CA;have HX4:=ZA (HX.o.trans X4);clear X4 hq hlt hdn hcs;have hws:IntKind.i64.wrap (((n - d:Nat):Int) - q)=((n - d - q:Nat):Int):=(IntWalk.i64_in _ (by have:=HHN.o;have:=HQ.o;omega)).trans (by have:=HQ.o;omega);go_wp2_with (first
    | (refine wpList_runG rfl (exec_mkst _ rfl q HMK.o rfl rfl HCS.o) ?_))
   generalize wr.alloc (.cells cs 9)=w4 at*;refine CA.mono ?_;rintro e w5 ⟨x',rfl,hsw,hlv,hnw,hnr,hu⟩;have HSW5:=ZA hsw;have HLV5:=ZA hlv;have HNW5:=ZA hnw;have HX5:Hid (Ext w w5):=ZA (HX4.o.then hu (fun g hg e=> by have h1:=HBW.o;rcases e with e | e | e <;> omega));clear CA hsw hlv hnw hnr hu;obtain ⟨R,hR⟩:∃R,R=mthP (leafHs (List.replicate d []++List.replicate q [])):=⟨_,rfl⟩;have HR32:Hid (R.length=32):=ZA (by rw[hR];exact root_len _);obtain ⟨M,hM⟩:∃M,M=(List.replicate d ([]:List UInt8)++List.replicate q []).length:=⟨_,rfl⟩;rw[←hR,←hM];have HSR:=ZA (ck_size35 oL M R HR32.o);have HCL:=ZA (ck_len oL M R HR32.o);clear hR hM;go_wp2_with (refine store_new rfl 36 _ _ rfl _ _ rfl (ckC oL M R) rfl HSR.o (by rw[HCL.o];rfl) (ck_ones _ _ _) ?_);have X6:=(Upd.refl none' w5).alloc (.cells (ckC oL M R).toArray 36);have h1:=HLT.o;have h2:=HQ.o;have h3:=HDE.o;have hdd:doneN (i+1) n=d+q:=by unfold doneN;omega
   have hrp:List.replicate (d+q) ([]:List UInt8)=List.replicate d []++List.replicate q []:=List.replicate_append_replicate.symm;have h4:=HHN.o;have hpn:putsN d (d+q)≤1073741824:=putsN_le (Nat.le_add_right _ _) (by omega);have hnn:=HNW5.o;rw[List.length_replicate] at hnn;have h5:=HI.o;refine ⟨⟨i+1,x',by omega,by rw[hdd];first | rfl | (simp <;> omega),by rw[hdd,hrp];exact HSW5.o.ext X6,by rw[hdd,hrp];exact HLV5.o,by omega,HX5.o.trans X6⟩,by simp[RowKit.intOf] <;> omega⟩
  ·have hdn':d=n:=by omega
   subst hdn';have hz:((d - d:Nat):Int)=0:=by omega
   rw[hz];have CU:=counts_any HSW.o.st;have HX4:=ZA HX.o;clear hlt hdn hz;go_wp2_with fail;refine CU.mono ?_;rintro e w4 ⟨rfl,hx4⟩;have HX5:=ZA (HX.o.trans hx4);have HBL:=ZA HSW.o.lts;have HWS:Hid (w.heap.size≤wr.heap.size):=ZA HX.o.size;have CA:=sw_append (ls:=ls) ((HE.o.up HB.o (Nat.le_refl _)).ext HX5.o) (HSW.o.ext hx4) HLV.o A c (HC.o.ext HX5.o) HA.o (fun ad had=> by have h1:=HAN.o ad had;have h2:=HBW.o;exact ⟨by omega,by omega,by omega⟩) (by rw[←HM.o];exact HH4.o) (by rw[←HM.o,List.length_replicate];exact HHN.o) HS.o (by have:=HI.o;omega);rw[List.length_replicate,←HNN.o,←HM.o] at CA;clear CU hx4;go_wp2_with fail;refine CA.mono ?_;rintro e w5 ⟨x',rfl,hsw,hlv,hnw,hnr,hu⟩;have HX6:Hid (Ext w w5):=ZA (HX5.o.then hu (fun g hg e=> by have h1:=HBW.o;rcases e with e | e | e <;> omega));have HST6:=ZA hsw.st;have HNW6:=ZA hnw;clear CA hsw hlv hnw hnr hu;obtain ⟨R,hR⟩:∃R,R=mthP (leafHs (List.replicate d []++ls)):=⟨_,rfl⟩;have HR32:Hid (R.length=32):=ZA (by rw[hR];exact root_len _);obtain ⟨M,hM⟩:∃M,M=(List.replicate d ([]:List UInt8)++ls).length:=⟨_,rfl⟩;rw[←hR,←hM];have HSR:=ZA (ck_size35 oL M R HR32.o);have HCL:=ZA (ck_len oL M R HR32.o);clear hR hM;have X7:=(Upd.refl none' w5).alloc (.cells (ckC oL M R).toArray 36);have HX7:=ZA (HX6.o.trans X7);have CU:=counts_any (HST6.o.ext X7);rw[HNW6.o] at CU;have hws:wrap64 ((x.nw:Int)+N - x.nw)=(N:Int):=by have:=HPN.o;unfold wrap64;omega
   clear X7;go_wp2_with (refine store_new rfl 36 _ _ rfl _ _ rfl (ckC oL M R) rfl HSR.o (by rw[HCL.o];rfl) (ck_ones _ _ _) ?_);refine CU.mono ?_;rintro e w8 ⟨rfl,hx8⟩;have HX8:=ZA (HX7.o.trans hx8);clear CU hx8;go_wp2_with fail;go_ret;refine ⟨?_,HX8.o⟩;rw[←hws];rfl
theorem rdout_nil{x':StD}{K:Nat}{ok:Bool}(h:RdOut x K x' ok)(h0:x.rs= []):ok=true∧x'=x.on K:=by
 obtain ⟨j,_,h2⟩:=h;cases ok with
 | true=>
  simp only[if_true] at h2;exact ⟨rfl,h2.2⟩
 | false=>
  simp only[Bool.false_eq_true,if_false] at h2;obtain ⟨_,h3,_⟩:=h2;unfold StD.rd StD.on at h3;rw[h0] at h3;simp at h3
theorem ck_cells(hR:R.length=32)(h:w.heap[g]? =some (.cells (ckC oL n R).toArray 36 (0,0))):w.cell? ⟨g,0,none⟩=some (.string (str oL))∧w.cell? ⟨g,1,none⟩=some (.int .u64 n)∧w.cell? ⟨g,34,none⟩=some (.slice none 0 0)∧∀t u,(R.map u8v)[t]? =some u→w.cell? ⟨g,2+t,none⟩=some u:=by refine ⟨cell_of_blk h 0,cell_of_blk h 1,?_,ck_rootC h⟩;rw[cell_of_blk h 34];unfold ckC;simp[hR]
theorem dec_self(X:HB):(!decide (X=X))=false:=by simp
theorem tx_no{m':Nat}{s:ByteArray}(h:(stRow (.map (some m')) tv x)[k]? =some (.string s))(h0:∀s,tv≠ .string s):False:=by rcases k with _ | _ | _ | _ | _ | _ | k <;> simp at h;exact h0 _ h
theorem Upd.cellv2{a:Addr}(u:Upd S w w')(h:w.cell? a=some v)(hn:¬S a.block):w'.cell? a=some v:=(Upd.cell u (lt_of_cell h) hn).trans h
def TdSt(w':World)(b mb:Nat)(tv:Value)(x:StD):Prop:=∃k,k≤1048600∧StAt w' b mb tv (x.on k)
def TdRel26(w:World)(n lb:Nat)(ls:List (List UInt8))(iv:Value)(wr:World):Prop:=
 ∃(i:Nat) (lv:Value),i≤n∧iv= .int .i64 i∧NvAt w.heap.size wr lb lv (ls.take i)∧Ext w wr
theorem told_any(E:Env B se w)(H:StAt w b mb tv x)(hB:B≤b)(hh:Holds x.texts oL ls)(hd:x.dead=false)(hr:x.rs= [])(hn:x.nr≤1073741824)(h:TextsAt w a (strs ls))(hsz:∀s∈ls,s.length≤65536)(hl:ls.length≤1048576)(ca:Nat):
 Calls Tryz.prog 25 #[.pointer (some ⟨b,0,none⟩),.slice a ls.length ca] w fun e w'=> e= .returned (.bool true)∧TdSt w' b mb tv x∧Upd (one b) w w':=by
 have CN:=nnew_any w;have HE:=ZA E;have HST:=ZA H;have HHD:=ZA (holds_head hh hl);have HLF:=ZA hh.lf;have HDN:=ZA (And.intro hd (And.intro hr hn));have HBB:=ZA (And.intro hB E.g.size);have HT:=ZA h;have HSZ:=ZA hsz;have HL:=ZA hl;have HBT:=ZA H.blk;obtain ⟨n,hln⟩:∃n,n=ls.length:=⟨_,rfl⟩;have HLN:=ZA hln;rw[←hln];have hn20:n≤1048576:=by omega
 clear E H hB hh hd hr hn h hsz hl hln;go_enter Tryz.func25,Tryz.ntmps25;go_wp2_with fail;refine CN.mono ?_;rintro e w1 ⟨rfl,hnv,hx⟩;have HNV:=ZA hnv;have HX:=ZA hx;clear CN hnv hx;obtain ⟨lb,hlb⟩:∃g,g=w.heap.size:=⟨_,rfl⟩;rw[←hlb];have HNV2:Hid (NvAt w.heap.size w1 lb (.slice none 0 0) []):=ZA (by rw[hlb];exact HNV.o);clear hlb;go_wp2_with fail;go_loopw [6] (fun iv wr=> TdRel26 w n lb ls iv wr) (fun iv _=> n - (RowKit.intOf iv).toNat);case atStart=> exact ⟨0,_,Nat.zero_le _,rfl,HNV2.o,HX.o⟩
 case round=>
  obtain ⟨i,lv,hi,rfl,hnv,hu⟩:=hrel;have HV:=ZA hnv;have HU:=ZA hu;clear hnv hu;by_cases hlt:i < n
  ·have hlti:(i:Int) < n:=by omega
   obtain ⟨s,hs⟩:∃s,ls[i]? =some s:=⟨_,List.getElem?_eq_getElem (by rw[←HLN.o];exact hlt)⟩;obtain ⟨_,g,o,rfl,hc⟩:=HT.o i (str s) (by unfold strs;rw[List.getElem?_map,hs];rfl);have hcr:wr.cell? ⟨g,o+i,none⟩=some (.string (str s)):=Ext.cellv HU.o hc;have CA:=nappend_any HV.o s (HSZ.o s (List.mem_of_getElem? hs)) (by rw[List.length_take];omega);have HTK:Hid (ls.take (i+1)=ls.take i++ [s]):=ZA (by rw[List.take_add_one,hs];rfl);have HLT:=ZA hlt;have HLO:Hid (∀g,(g=lb∨lv.ownBlock=some g)→w.heap.size≤g):=ZA (fun g hg=> by
    rcases hg with rfl | hg
    ·exact HV.o.lo
    ·exact (HV.o.row.lt g hg).1)
   have hwi:IntKind.i64.wrap ((i:Int)+1)=((i+1:Nat):Int):=(IntWalk.i64_in _ (by omega)).trans (by omega);clear hc hs hlt hi;go_wp2_with fail;refine CA.mono ?_;rintro e w2 ⟨rfl,⟨lv2,hnv⟩,hx⟩;have HV2:=ZA hnv;have HU2:Hid (Ext w w2):=ZA (HU.o.then hx (fun g hb hg=> by have:=HLO.o g hg;omega));clear CA hnv hx;go_wp2_with fail;have hlt:=HLT.o;exact ⟨⟨i+1,lv2,by omega,by first | rfl | (simp <;> omega),by rw[HTK.o];exact HV2.o,HU2.o⟩,by simp[RowKit.intOf] <;> omega⟩
  ·have hin:i=n:=by omega
   subst hin;have hlti:¬(i:Int) < i:=by omega
   have HVF:Hid (NvAt w.heap.size wr lb lv ls):=ZA (by have h:=HV.o;rwa [HLN.o,List.take_length] at h);have hwu:IntKind.u64.wrap (i:Int)=(i:Int):=by rw[IntKind.wrap_u64];omega
   have CR:=nroot_any HVF.o i (by rw[HLN.o];exact Nat.le_refl _) (HE.o.ext HU.o).sgw (HE.o.ext HU.o).sh;rw[show mthP (segH ls 0 i)=mthP (leafHs ls) by rw[HLN.o,segH_all]] at CR;have HX32:=ZA (root_len ls);have HRE:Hid (rootE (edgesP ls)=mthP (leafHs ls)):=ZA (root_mth (leafHs ls));obtain ⟨X,hX⟩:∃X,X=mthP (leafHs ls):=⟨_,rfl⟩;have HXE:=ZA hX;have HHX:=ZA HHD.o;rw[←hX] at CR HX32 HHX HRE;have HSX:=ZA (hash_size32 X HX32.o);have HZX:=ZA (show zero32.size=(X.map u8v).length by rw[List.length_map,HX32.o];rfl);have HSN:=ZA (ck_size35 oL i X HX32.o);have HLC:Hid (zckA.size=(ckC oL i X).length):=ZA (by rw[ck_len oL i X HX32.o];rfl);clear hX hlt hi;go_wp2_with fail;refine CR.mono ?_;rintro e w2 ⟨rfl,hx2⟩;have HXA:=ZA (HU.o.trans (hx2.alloc (.cells (X.map u8v).toArray 33)));have HVA:=ZA (HVF.o.ext (hx2.alloc (.cells (X.map u8v).toArray 33)));have HQA:=ZA (blk_alloc w2 (.cells (X.map u8v).toArray 33));have CH:=rshead_any (HE.o.ext HXA.o) (HST.o.ext HXA.o) HBB.o.1 HHX.o HDN.o.1 (by have:=HDN.o.2.2;omega) (by rw[HDN.o.2.1];decide);rw[←HLN.o] at CH;have HXS:Hid (w.heap.size≤w2.heap.size):=ZA (Nat.le_trans HU.o.size hx2.size);clear CR hx2;go_wp2_with (first
    | (refine store_new rfl 33 _ _ rfl _ _ rfl (X.map u8v) rfl HSX.o HZX.o (u8_ones X) ?_))
   obtain ⟨xq,hxq⟩:∃xq,xq=w2.heap.size:=⟨_,rfl⟩;rw[←hxq] at HQA⊢;generalize w2.alloc (.cells (X.map u8v).toArray 33)=w3 at*;have HXQ:Hid (w.heap.size≤xq):=ZA (by rw[hxq];exact HXS.o);clear hxq;refine CH.mono ?_;rintro e w4 ⟨x1,ok,hrd,hst,hu,hres⟩;obtain ⟨rfl,rfl⟩:=rdout_nil hrd HDN.o.2.1;unfold HdRes at hres;obtain ⟨-,ev,vs,rfl, -⟩:_∧_:=by
    rcases hres with h | h
    ·exact h
    ·exact absurd HRE.o h.1
   have HST4:=ZA hst;have HU4:Hid (Upd (one b) w w4):=ZA ((Upd.ext HXA.o _).trans hu);have HE4:=ZA ((HE.o.ext HXA.o).upd hu (fun g hg=> by rw[show g=b from hg];exact HBB.o.1));have HV4:Hid (NvAt w.heap.size w4 lb lv ls):=ZA (HVA.o.upd hu (fun e=> by
    have h9:=HVA.o.blk;rw[show lb=b from e,(HST.o.ext HXA.o).blk] at h9;simp at h9) (fun g hg e=> by
    obtain ⟨c,hc⟩:=rowT HVA.o.row hg;rw[show g=b from e,(HST.o.ext HXA.o).blk] at hc;simp at hc))
   have HQ4:=ZA (hu.blk HQA.o (fun e=> by have h9:=HQA.o;rw[show xq=b from e,(HST.o.ext HXA.o).blk] at h9;simp at h9))
   have X5:=(Upd.refl none' w4).alloc (.cells (ckC oL i X).toArray 36);have HP5:=ZA (blk_alloc w4 (.cells (ckC oL i X).toArray 36));have CL:=rsleaves_any (x:=x.on (1+rdsE (edgesP ls))) (HE4.o.ext X5) (HST4.o.ext X5) HBB.o.1 HHX.o HRE.o HLF.o HSZ.o HDN.o.1 (by have h1:=HDN.o.2.2;have h2:rdsE (edgesP ls)≤3:=Nat.le_trans List.countP_le_length (fits_3 HHX.o.fit (by have:=HHX.o.n20;omega));simp only[StD.on];omega) (by show x.rs.length < _;rw[HDN.o.2.1];decide);have HX5:=ZA X5;obtain ⟨p,hp⟩:∃p,p=w4.heap.size:=⟨_,rfl⟩;have HPW:Hid (w.heap.size≤p):=ZA (by rw[hp];exact HU4.o.size);clear CH hrd hst hu hres X5;go_wp2_with (first
    | (refine store_new rfl 36 _ _ rfl _ _ rfl (ckC oL i X) rfl HSN.o HLC.o (ck_ones oL i X) ?_))
   rw[←hp] at HP5⊢;have HST5:=ZA (HST4.o.ext HX5.o);have HV5:=ZA (HV4.o.ext HX5.o);have HQ5:=ZA (Ext.blk HX5.o HQ4.o);have HU5:=ZA (HU4.o.thenExt HX5.o);generalize w4.alloc (.cells (ckC oL i X).toArray 36)=w5 at*;clear hp;refine CL.mono ?_;rintro e w6 ⟨x2,ok,hrd,hst,hu,hres⟩;obtain ⟨rfl,rfl⟩:=rdout_nil hrd HDN.o.2.1;unfold LvRes at hres;obtain ⟨-,mb2,mv,rfl,hnv⟩:_∧_:=by
    rcases hres with h | h
    ·exact h
    ·exact absurd HXE.o.symm h.1
   have HST6:=ZA hst;have HU6:Hid (Upd (one b) w w6):=ZA (HU5.o.trans hu);have HM6:=ZA hnv;have HQ6:=ZA (hu.blk HQ5.o (fun e=> by have h9:=HQ5.o;rw[show xq=b from e,HST5.o.blk] at h9;simp at h9))
   have HP6:=ZA (hu.blk HP5.o (fun e=> by have h9:=HP5.o;rw[show p=b from e,HST5.o.blk] at h9;simp at h9))
   have CS:=nsize_any hnv;rw[←HLN.o] at CS;obtain ⟨k0,k1,k34,kR⟩:=ck_cells HX32.o HP6.o;rw[show str oL=⟨#[108,111,103]⟩ from rfl] at k0;have HKR:=ZA kR;have HKQ:=ZA (blk_cells HQ6.o);clear CL hrd hst hu hres hnv kR;go_wp2_with fail;refine CS.mono ?_;rintro e w7 ⟨rfl,rfl⟩;clear CS;go_wp2_with (first
    | (refine wpList_runG rfl (run_ldA _ rfl p 2 rfl (X.map u8v) Tryz.underlying33 rfl HSX.o HKR.o) ?_)
    | (refine wpList_runG rfl (run_ldA _ rfl xq 0 rfl (X.map u8v) Tryz.underlying33 rfl HSX.o HKQ.o) ?_)
    | (refine wpList_runG rfl (run_val (run_neqH _ rfl X X rfl rfl HX32.o HX32.o) (congrArg Value.bool (dec_self X))) ?_))
   clear k0 k1 k34;generalize w6=w8 at*;go_loopw [17] (fun jv wr=> ∃j:Nat,j≤i∧jv= .int .u64 j∧w8=wr) (fun jv _=> i - (RowKit.intOf jv).toNat);case atStart=> exact ⟨0,Nat.zero_le _,rfl,rfl⟩
   case round=>
    obtain ⟨j,hj,rfl,rfl⟩:=hrel;by_cases hlt:j < i
    ·have hlti:(j:Int) < i:=by omega
     have hjl:j < ls.length:=by rw[←HLN.o];exact hlt
     have CF:=nleaf_any HM6.o j hjl;obtain ⟨_,g,o,rfl,hc⟩:=HT.o j (str (ls[j]'hjl)) (by unfold strs;rw[List.getElem?_map,List.getElem?_eq_getElem hjl];rfl);have hcr:w8.cell? ⟨g,o+j,none⟩=some (.string (str (ls[j]'hjl))):=HU6.o.cellv2 hc (fun e=> by have h9:=HBT.o;rw[←show g=b from e] at h9;have h8:=cell_of_blk h9 (o+j);rw[h8] at hc;exact tx_no hc (fun s e=> by obtain ⟨A,c,h7⟩:=own_sl HST.o.row;rw[h7] at e;cases e))
     generalize ls[j]'hjl=s at*;have HLT:=ZA hlt;have hwi:IntKind.u64.wrap ((j:Int)+1)=((j+1:Nat):Int):=by rw[IntKind.wrap_u64];omega
     clear hjl hc hlt hj;go_wp2_with fail;refine CF.mono ?_;rintro e w9 ⟨rfl,rfl⟩;clear CF;go_wp2_with fail;have hlt:=HLT.o;exact ⟨⟨j+1,by omega,by first | rfl | (simp <;> omega),by first | rfl | trivial⟩,by simp[RowKit.intOf] <;> omega⟩
    ·have hlti:¬(j:Int) < i:=by omega
     clear hlt;go_wp2_with fail;go_ret;exact ⟨rfl,by have h:=HST6.o;rw[StD.on_on] at h;refine ⟨_,?_,h⟩;have h2:rdsE (edgesP ls)≤3:=Nat.le_trans List.countP_le_length (fits_3 HHX.o.fit (by have:=HHX.o.n20;omega));have h3:=HHX.o.n20;omega,HU6.o⟩
def OpPost(b mb:Nat)(tv:Value)(x:StD)(ls:List (List UInt8))(w:World)(e:Ending)(w':World):Prop:=
 ∃wb ev vs,e= .returned (.tuple #[.pointer (some ⟨wb,0,none⟩),.nilIface])∧TdSt w' b mb tv x∧WrAt w' wb (.pointer (some ⟨b,0,none⟩)) oL ls.length (mthP (leafHs ls)) ev false∧EgAt w.heap.size w' ev (edgesP ls) vs∧w.heap.size≤wb∧Upd (one b) w w'
theorem rsopen_any(E:Env B se w)(H:StAt w b mb tv x)(hB:B≤b)(hh:Holds x.texts oL ls)(hl:ls.length≤1048576)(hd:x.dead=false)(hr:x.rs= [])(hn:x.nr≤1073741824):
 Calls Tryz.prog 10 #[.pointer (some ⟨b,0,none⟩)] w (OpPost b mb tv x ls w):=by
 have T:=holds_head hh hl;have CH:=rshead_any E H hB T hd (by omega) (by rw[hr];decide);have hk:1+rdsE (edgesP ls)≤1048600:=by have h2:rdsE (edgesP ls)≤3:=Nat.le_trans List.countP_le_length (fits_3 T.fit (by omega));omega
 have HK:=ZA hk;have HFT:Hid (fitsB ls.length (edgesP ls)=true):=ZA ((fitsB_iff _ _).2 (edgesP_fits ls));have HRE:Hid (rootE (edgesP ls)=mthP (leafHs ls)):=ZA (root_mth (leafHs ls));have HR32:=ZA (root_len ls);have HE32:Hid (∀e∈edgesP ls,H32 e∧e.length≤1048576):=ZA (fun e he=> by have h:=edges_E32 ls e he;exact ⟨h.1,by omega⟩);have HEL:Hid ((edgesP ls).length≤1048576):=ZA (Nat.le_trans (fits_3 T.fit (by omega)) (by decide));obtain ⟨n,hln⟩:∃n,n=ls.length:=⟨_,rfl⟩;have HLN:=ZA hln;have HL:=ZA hl;have HE:=ZA E;have HB:=ZA hB;have HDR:=ZA hr;obtain ⟨R,hR⟩:∃R,R=mthP (leafHs ls):=⟨_,rfl⟩;have HRR:=ZA hR;obtain ⟨es,hes⟩:∃es,es=edgesP ls:=⟨_,rfl⟩;have HES:=ZA hes;unfold OpPost;rw[←hR] at CH HRE HR32;rw[←hes] at CH HK HFT HRE HE32 HEL;rw[←hln] at CH HFT HL;rw[←hR,←hes,←hln];clear T E H hB hh hl hd hr hn hk hln hR hes;go_enter Tryz.func10,Tryz.ntmps10;go_wp2_with fail;refine CH.mono ?_;rintro e w1 ⟨x1,ok,hrd,hst,hu,hres⟩;obtain ⟨rfl,rfl⟩:=rdout_nil hrd HDR.o;unfold HdRes at hres;obtain ⟨-,ev,vs,rfl,hev⟩:_∧_:=by
  rcases hres with h | h
  ·exact h
  ·exact absurd HRE.o h.1
 have HST:=ZA hst;have HU:=ZA hu;have HE1:=ZA (HE.o.upd hu (fun g hg=> by rw[show g=b from hg];exact HB.o));obtain ⟨A,c,rfl,hed⟩:∃A c,ev= .slice A es.length c∧EdAt w1 A es:=by obtain ⟨A,c,rfl⟩:=own_sl hev.er;exact ⟨A,c,rfl,hev.at⟩
 have X2:=(Upd.refl none' w1).alloc (.cells (ckC oL n R).toArray 36);have CR:=resume_ok (HE1.o.ext X2) (HST.o.ext X2) oL (by decide) n (by have:=HL.o;omega) R HR32.o A es c (hed.ext X2) HE32.o HEL.o name_log HL.o HFT.o HRE.o;have HX2:=ZA X2;have HQ2:=ZA (blk_alloc w1 (.cells (ckC oL n R).toArray 36));have HSN:=ZA (ck_size35 oL n R HR32.o);have HLC:Hid (zckA.size=(ckC oL n R).length):=ZA (by rw[ck_len oL n R HR32.o];rfl);clear CH hrd hst hu hres hev hed X2;have HCL:=ZA (blk_cells HQ2.o);go_wp2_with (first
  | (refine store_new rfl 36 _ _ rfl _ _ rfl (ckC oL n R) rfl HSN.o HLC.o (ck_ones oL n R) ?_)
  | (refine wpList_loadAgg rfl 36 _ rfl w1.heap.size 0 rfl (ckC oL n R) Tryz.underlying36 rfl HSN.o HCL.o ?_))
 have HU2:=ZA (HU.o.thenExt HX2.o);have HST2:=ZA (HST.o.ext HX2.o);generalize w1.alloc (.cells (ckC oL n R).toArray 36)=w2 at*;refine CR.mono ?_;rintro e w3 ⟨wb,ev,vs,rfl,hw,hev,hlo,hx⟩;have HW:=ZA hw;have HEV:=ZA hev;have HLO:Hid (w.heap.size≤w2.heap.size):=ZA HU2.o.size;have HLW:=ZA hlo;have HX:=ZA hx;clear CR hw hev hlo hx;go_wp2_with fail;go_ret2;exact ⟨wb,ev,vs,rfl,⟨_,HK.o,HST2.o.ext HX.o⟩,HW.o,⟨ownLow HEV.o.er HLO.o,fun k=> ownLow (HEV.o.ee k) HLO.o⟩,Nat.le_trans HLO.o HLW.o,HU2.o.thenExt HX.o⟩
end Go.Proofs.YtjnjpgdoncbahaaGreatDoor
