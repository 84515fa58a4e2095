/- tile.In by contract. tile.Decode by contract. One hash of a row of hashes, its cells. writer.Create, Resume of a store that is not there, by contracts; the statements' fresh. tile.All by contract. The statements' short and logged of chapter 25 by contracts. plan.Fold by contract. PRINTED by wip/tools/gen_rsroot.py. restore.root by contract. PRINTED by wip/tools/gen_rsroot.py. -/
import Derived.Test.YtjnjpgdoncbahaaGreatDoorApD
import Derived.Test.YtjnjpgdoncbahaaGreatDoorGrW
import Derived.Test.YtjnjpgdoncbahaaGreatDoorTileH
import Derived.Test.YtjnjpgdoncbahaaGreatDoorGrT
import Derived.Test.YtjnjpgdoncbahaaGreatDoorTyped
import Derived.Test.YtjnjpgdoncbahaaGreatDoorApp
import Derived.Test.YtjnjpgdoncbahaaGreatDoorDec
import Derived.Test.YtjnjpgdoncbahaaGreatDoorNaive
import Derived.Laws.Cover3
import Derived.Test.YtjnjpgdoncbahaaGreatDoorWrN
import Derived.Test.YtjnjpgdoncbahaaGreatDoorTxt
import Derived.Test.YtjnjpgdoncbahaaGreatDoorGrAdd
namespace Go.Proofs.YtjnjpgdoncbahaaGreatDoor
open Go.RowKit Go.Lib Go.Sort
set_option maxRecDepth 20000
set_option maxHeartbeats 16000000
theorem tl_size:(Tryz.prog.info? 115).map (·.size)=some 3:=by kernel_rfl
theorem run_tl0(w:World):(Instr.build 115 #[]).run Tryz.prog w= .ok (.agg #[.int .u8 0,.int .u64 0,.int .i64 0]) w:=by kernel_rfl
def tlV(k i m:Nat):Value:= .agg #[.int .u8 k,.int .u64 i,.int .i64 m]
theorem tin_any(w:World)(k i n:Nat)(hk:k≤7)(hi:i≤1048576)(hn:n≤1048576)(S:Nat)(hS:S=n / 2 ^ (8*k)):
 Calls Tryz.prog 41 #[.int .u8 k,.int .u64 i,.int .u64 n] w fun e w'=> e= .returned (.tuple #[if i*256 < S then tlV k i (min (S - i*256) 256) else tlV 0 0 0,.bool (decide (i*256 < S))])∧Ext w w':=by
 have HX0:=ZA ((Upd.refl none' w).alloc (.cells #[.int .u8 0,.int .u64 0,.int .i64 0] 115));have HQ0:=ZA (blk_alloc w (.cells #[.int .u8 0,.int .u64 0,.int .i64 0] 115));have hSb:S≤1048576:=by rw[hS];exact Nat.le_trans (Nat.div_le_self _ _) hn
 have HS:=ZA hS.symm;obtain ⟨E,hE⟩:∃E,E=8*k:=⟨_,rfl⟩;obtain ⟨I,hI⟩:∃I,I=i*256:=⟨_,rfl⟩;obtain ⟨Q,hQ⟩:∃Q,Q=S / 256:=⟨_,rfl⟩;have h8:IntKind.u8.wrap (8*(k:Int))=E:=by rw[IntKind.wrap_u8'];omega
 have h256:IntKind.u64.wrap ((i:Int)*256)=I:=by rw[IntKind.wrap_u64];omega
 have hk7:¬(7:Int) < k:=by omega
 have hn63:¬(9223372036854775808:Int) < n:=by omega
 have HE:=ZA (show E≤64 by omega);rw[←hE] at HS;have hdv:(S:Int) / 256=Q:=by omega
 rw[←hI];clear hS;by_cases hin:I < S
 ·obtain ⟨M,hM⟩:∃M,M=min (S - I) 256:=⟨_,rfl⟩;have hgt:¬(Q:Int) < i:=by omega
  have hge:¬(S:Int)≤I:=by omega
  have hsub:IntKind.u64.wrap ((S:Int) - I)=((S - I:Nat):Int):=by rw[IntKind.wrap_u64];omega
  rw[if_pos hin,decide_eq_true hin,←hM];clear hE hI hQ hi hn hk;go_enter Tryz.func41,Tryz.ntmps41;go_wp2_with (refine wpList_run rfl (run_bop _ rfl (.int .u64 n) (.int .u8 E) (.int .u64 S) rfl rfl (run_shrU .u8 n E S HE.o HS.o _)) ?_);have hmn:(min (((S - I:Nat):Int)) 256)=((min (S - I) 256:Nat):Int):=by omega
  refine bodyPost_ret (v:= .tuple #[.agg #[.int .u8 k,.int .u64 i,.int .i64 (min (((S - I:Nat):Int)) 256)],.bool true]) (results_cell_twoV rfl _ _ w.heap.size 115 #[.int .u8 k,.int .u64 i,.int .i64 (min (((S - I:Nat):Int)) 256)] (0,0) _ _ rfl rfl (blk_alloc w _) Tryz.underlying115 rfl tl_size) rfl ⟨?_,(Upd.refl none' w).alloc _⟩;unfold tlV;rw[hmn]
 ·have hge:(S:Int)≤I:=by omega
  rw[if_neg hin,decide_eq_false hin];by_cases hgt:(Q:Int) < i
  ·clear hE hI hQ hi hn hk;go_enter Tryz.func41,Tryz.ntmps41;go_wp2_with (first
    | (refine wpList_run rfl (run_bop _ rfl (.int .u64 n) (.int .u8 E) (.int .u64 S) rfl rfl (run_shrU .u8 n E S HE.o HS.o _)) ?_)
    | (refine wpList_run rfl (exec_build _ [] rfl [] _ rfl (run_tl0 _)) ?_))
   exact bodyPost_ret (v:= .tuple #[.agg #[.int .u8 0,.int .u64 0,.int .i64 0],.bool false]) (results_cell_twoV rfl _ _ w.heap.size 115 #[.int .u8 0,.int .u64 0,.int .i64 0] (0,0) _ _ rfl rfl (blk_alloc w _) Tryz.underlying115 rfl tl_size) rfl ⟨rfl,(Upd.refl none' w).alloc _⟩
  ·clear hE hI hQ hi hn hk;go_enter Tryz.func41,Tryz.ntmps41;go_wp2_with (first
    | (refine wpList_run rfl (run_bop _ rfl (.int .u64 n) (.int .u8 E) (.int .u64 S) rfl rfl (run_shrU .u8 n E S HE.o HS.o _)) ?_)
    | (refine wpList_run rfl (exec_build _ [] rfl [] _ rfl (run_tl0 _)) ?_))
   exact bodyPost_ret (v:= .tuple #[.agg #[.int .u8 0,.int .u64 0,.int .i64 0],.bool false]) (results_cell_twoV rfl _ _ w.heap.size 115 #[.int .u8 0,.int .u64 0,.int .i64 0] (0,0) _ _ rfl rfl (blk_alloc w _) Tryz.underlying115 rfl tl_size) rfl ⟨rfl,(Upd.refl none' w).alloc _⟩
theorem conv_bytes2(l:List UInt8)(w:World):∃cap w',(convert 9 50 (.string (str l))).run Tryz.prog w= .ok (.slice (some ⟨w.heap.size,0,none⟩) l.length cap) w'∧l.length≤cap∧Ext w w'∧
 ∀j c,l[j]? =some c→w'.cell? ⟨w.heap.size,j,none⟩=some (u8v c):=by
 have e:=run_bytes_of_string (P:=Tryz.prog) w 9 50 5 (str l) Tryz.underlying9 Tryz.underlying50 Tryz.underlying5;rw[str_size] at e;refine ⟨_,_,e,grownCap_ge _ _ _ _,((Upd.refl _ _).drew).alloc _,fun j c hj=> ?_⟩;have hb:=blk_alloc w.drew (.cells (bytesRow (str l) (grownCap w l.length 0 5)) 5 ((bytesRow (str l) (grownCap w l.length 0 5)).size,(bytesRow (str l) (grownCap w l.length 0 5)).size+1));have hlt:j < l.length:=(List.getElem?_eq_some_iff.1 hj).1;rw[show w.heap.size=w.drew.heap.size from rfl,cell_of_blk hb];have hc:l[j]=c:=(List.getElem?_eq_some_iff.1 hj).2;simp[bytesRow,Array.getElem?_append,hlt,hc]
theorem run_sl32{P:Program}{o:Oper}{a:Act}(w:World){t e:TypeId}{x h3 m3:Operand}(ho:o.op= .slice t x none (some h3) (some m3))(g off n c:Nat)(hx:a.eval x= .slice (some ⟨g,off,none⟩) n c)(hh:a.eval h3= .int .i64 32)(hm:a.eval m3= .int .i64 32)(hc:32≤c)(hu:P.underlying t=some (.slice e))(hs:(P.info? e).map (·.size)=some 1):
 (execOp a.eval o).run P w= .ok (.value (.slice (some ⟨g,off,none⟩) 32 32)) w:=by
 cases hq:P.info? e with
 | none=> simp[hq] at hs
 | some i=>
  have his:i.size=1:=by simpa[hq] using hs
  have hc2:(32:Int)≤c:=by omega
  simp[execOp,ho,hx,hh,hm,Instr.sliceAt,Instr.slice,Instr.sliceBounds,Instr.sliceBound,run_underlying hu,asIntOf,sizeOf,typeInfo,hq,his,hc2,hc,Addr.add_lit]
theorem flat_len32:∀{hs:List HB},H32 hs→hs.flatten.length=32*hs.length
 | [],_=> rfl
 | h::hs,H=> by rw[List.flatten_cons,List.length_append,flat_len32 (fun x hx=> H x (List.mem_cons_of_mem _ hx)),H h List.mem_cons_self,List.length_cons];omega
theorem flat_get:∀{hs:List HB} (i j:Nat) (h:HB),H32 hs→hs[i]? =some h→j < 32→hs.flatten[32*i+j]? =h[j]?
 | [],i,j,h,H,hi,hj=> by cases hi
 | x::hs,0,j,h,H,hi,hj=> by
  cases hi
  rw[List.flatten_cons,Nat.mul_zero,Nat.zero_add,List.getElem?_append_left (by rw[H x List.mem_cons_self];exact hj)]
 | x::hs,i+1,j,h,H,hi,hj=> by have hx:=H x List.mem_cons_self;rw[List.flatten_cons,List.getElem?_append_right (by omega),show 32*(i+1)+j - x.length=32*i+j by omega];exact flat_get i j h (fun y hy=> H y (List.mem_cons_of_mem _ hy)) (by simpa using hi) hj
def TdRel(W:World)(hs:List HB)(g L cap:Nat)(lv bv:Value)(wr:World):Prop:=
 ∃(i:Nat) (A:Option Addr),i≤hs.length∧bv= .slice A (L - 32*i) (cap - 32*i)∧(i < hs.length→A=some ⟨g,32*i,none⟩)∧wr.ownsRow W.heap.size 33 32 lv i (hcells (hs.take i))∧Ext W wr
theorem tdec_any(w:World)(hs:List HB)(h32:H32 hs)(h1:1≤hs.length)(h2:hs.length≤256):
 Calls Tryz.prog 43 #[.string (str hs.flatten),.int .i64 hs.length] w fun e w'=> ∃v,e= .returned (.tuple #[v,.nilIface])∧w'.ownsRow w.heap.size 33 32 v hs.length (hcells hs)∧Ext w w':=by
 obtain ⟨i0,hi0,hz0,hz1,hz2⟩:=info_parts info_hash;have hfl:=flat_len32 h32;obtain ⟨cap,W,hrun,hcap,hX,hcells⟩:=conv_bytes2 hs.flatten w;have HX:=ZA hX;have HCE:=ZA hcells;have HCAP:=ZA hcap;have H32S:=ZA h32;obtain ⟨L,hL⟩:∃L,L=hs.flatten.length:=⟨_,rfl⟩;have HL:=ZA (And.intro hL hfl);obtain ⟨n,hn⟩:∃n,n=hs.length:=⟨_,rfl⟩;have HN:=ZA (And.intro hn (And.intro h1 h2));rw[←hL] at hrun;rw[←hn] at h1 h2 hfl⊢;have hln:((32:Int)*(n:Int))=(L:Int):=by omega
 have hwl:IntKind.i64.wrap ((32:Int)*(n:Int))=(L:Int):=(IntWalk.i64_in _ (by omega)).trans hln;have hsz:(hs.flatten.length:Int)=(L:Int):=by rw[hL]
 have hn1:¬(n:Int) < 1:=by omega
 have hn2:¬(256:Int) < n:=by omega
 have hszn:hs.flatten.length=L:=hL.symm;clear hX hcells hcap h32 hL hn hfl hln;go_enter Tryz.func43,Tryz.ntmps43;go_wp2_with fail;clear hrun;go_loopw [6,7] (fun lv bv wr=> TdRel W hs w.heap.size L cap lv bv wr) (fun _ bv _=> match bv with | .slice _ m _=> m | _=> 0);case atStart=> exact ⟨0,some ⟨w.heap.size,0,none⟩,Nat.zero_le _,by simp,fun _=> by simp,World.ownsRow_nil _ _ _ _,Upd.refl _ _⟩
 case round=>
  obtain ⟨i,A,hi,rfl,hA,hown,hu⟩:=hrel;have HU:=ZA hu;have HO:=ZA hown;have HI:=ZA hi;obtain ⟨lA,lc,rfl⟩:=own_sl hown;have hLn:L=32*n:=by rw[HL.o.1,HL.o.2,HN.o.1]
  obtain ⟨bl,hbl⟩:∃bl,bl=L - 32*i:=⟨_,rfl⟩;obtain ⟨bc,hbc⟩:∃bc,bc=cap - 32*i:=⟨_,rfl⟩;rw[←hbl,←hbc];by_cases hlt:i < n
  ·obtain rfl:=hA (by rw[←HN.o.1];exact hlt);have hcp:L≤cap:=by rw[HL.o.1];exact HCAP.o
   have hbl0:(0:Int) < bl:=by omega
   obtain ⟨x,hx⟩:∃x,hs[i]? =some x:=⟨_,List.getElem?_eq_getElem (by rw[←HN.o.1];exact hlt)⟩;have hx32:=H32S.o x (List.mem_of_getElem? hx);have HBC:=ZA (show 32≤bc∧32≤bl∧bl≤bc by omega);have HBE:=ZA (And.intro hbl (And.intro hbc (And.intro hcp (And.intro hLn hlt))));have HC:Hid (∀j v,(x.map u8v)[j]? =some v→wr.cell? ⟨w.heap.size,32*i+j,none⟩=some v):=ZA (fun j v hv=> by
    rw[List.getElem?_map] at hv;cases hxj:x[j]? with
    | none=> rw[hxj] at hv;cases hv
    | some b=>
     rw[hxj] at hv;cases hv
     have hj:j < 32:=by have:=(List.getElem?_eq_some_iff.1 hxj).1;omega
     exact Ext.cellv HU.o (HCE.o (32*i+j) b (by rw[flat_get i j x H32S.o hx hj,hxj])))
   have HSX:=ZA (hash_size32 x hx32);have HX32:=ZA hx32;have HTK:Hid (hs.take (i+1)=hs.take i++ [x]):=ZA (by rw[List.take_add_one,hx];rfl);have HXL:Hid ((x.map u8v).length=1*32):=ZA (by rw[List.length_map,hx32]);have HXP:Hid (0 < (x.map u8v).length∧(x.map u8v).length≤16777216):=ZA (by rw[List.length_map,hx32];decide);have HU3:=ZA ((Upd.refl none' wr).alloc (.cells (x.map u8v).toArray 33));have HO3:=ZA (ownsRow_upd HO.o HU3.o (fun _ _=> id));have HCN:Hid (CellsAt (wr.alloc (.cells (x.map u8v).toArray 33)) (some ⟨wr.heap.size,0,none⟩) (x.map u8v)):=ZA (fun j u hu=> ⟨_,rfl,by rw[Addr.add_lit];exact blk_cells (blk_alloc wr (.cells (x.map u8v).toArray 33)) j u hu⟩)
   have HO1:=ZA (u8_ones x);have HLM:Hid (i+1≤maxLen∧(i+1)*32≤140737488355328):=ZA (by unfold maxLen;have:=HN.o.2.2;omega);have HBW:Hid (W.heap.size≤(wr.alloc (.cells (x.map u8v).toArray 33)).heap.size):=ZA (Nat.le_trans HU.o.size HU3.o.size);have hat:∀w7:World,(Instr.arrayAt 33 (.slice (some ⟨w.heap.size,32*i,none⟩) 32 32)).run Tryz.prog w7= .ok (.pointer (some ⟨w.heap.size,32*i,none⟩)) w7:=fun w7=> run_arrayAt w7 33 _ 32 _ 32 32 Tryz.underlying33 (Nat.le_refl _);clear hx hx32 hlt hi hown hu hbl hbc hcp hLn hA;go_wp2_with (first
    | (refine wpList_run rfl (run_sl32 _ rfl w.heap.size (32*i) bl bc rfl rfl rfl HBC.o.1 Tryz.underlying50 u8_size) ?_)
    | (refine wpList_loadAgg rfl 33 _ rfl w.heap.size (32*i) rfl (x.map u8v) Tryz.underlying33 rfl HSX.o HC.o ?_)
    | (refine wpList_buildOne rfl 113 33 _ rfl (x.map u8v) rfl Tryz.underlying113 HSX.o hash_zero HXP.o.1 HXP.o.2 ?_)
    | (at_builtin;(refine wpList_appX rfl _ _ 113 rfl W.heap.size 33 i0 _ 32 32 Tryz.underlying113 hi0 hz0 hz1 hz2 rfl (by decide) (.slice lA i lc) i _ rfl HO3.o (some ⟨wr.heap.size,0,none⟩) 1 1 (x.map u8v) rfl HXL.o HCN.o HO1.o HLM.o.1 HLM.o.2 HBW.o ?_)))
   intro A7 c7 w7 hown7 hgrow7 _;have HU7:Hid (Ext W w7):=ZA ((HU.o.trans HU3.o).grown hgrow7 (fun g hg=> .inl (HO3.o.lt g hg).1));have HO7:Hid (w7.ownsRow W.heap.size 33 32 (.slice A7 (i+1) c7) (i+1) (hcells (hs.take (i+1)))):=ZA (by rw[HTK.o,hcells_app,hcells_one];exact hown7);clear hown7 hgrow7;go_wp2_with (refine wpList_run rfl (run_slLo _ rfl (some ⟨w.heap.size,32*i,none⟩) bl bc 32 1 5 rfl rfl HBC.o.2.1 Tryz.underlying50 u8_size) ?_);have hN:=HN.o.1;obtain ⟨q1,q2,q3,q4,q5⟩:=HBE.o;have q6:=HBC.o;refine ⟨⟨i+1,if bc=32 then some ⟨w.heap.size,32*i,none⟩ else some ⟨w.heap.size,32*i+32,none⟩,by omega,?_,fun hi9=> ?_,HO7.o,HU7.o⟩,by show bl - 32 < bl;omega⟩
   ·rw[show L - 32*(i+1)=bl - 32 by omega,show cap - 32*(i+1)=bc - 32 by omega]
   ·rw[if_neg (by omega),show 32*(i+1)=32*i+32 by omega]
  ·have hbl0:bl=0:=by omega
   have hin:i=n:=by have:=HN.o.1;omega
   have HF:Hid (wr.ownsRow w.heap.size 33 32 (.slice lA i lc) n (hcells hs)):=ZA (by have h9:=own_lowN HO.o HX.o.size;rw[hin,HN.o.1,List.take_length] at h9;rw[hin,HN.o.1];exact h9)
   rw[hbl0];clear hlt hi hown hu hbl hbc hLn hA hin hbl0;go_wp2_with fail;go_ret2;exact ⟨_,rfl,HF.o,HX.o.trans HU.o⟩
def rowTl(n k:Nat):List (Nat×Nat×Nat):=(List.range ((n / 2 ^ (8*k)+255) / 256)).map fun i=> (k,i,min (n / 2 ^ (8*k) - i*256) 256)
def allT(n:Nat):Nat→List (Nat×Nat×Nat)
 | 0=> []
 | k+1=> allT n k++rowTl n k
theorem pfold_any(w:World)(g off:Nat)(l:List HB)(cap:Nat)(h32:H32 l)(hc:CellsAt w (some ⟨g,off,none⟩) (hcells l))(h0:0 < l.length)(hl:l.length≤64)(hG:21 < w.heap.size)(htab:ShaTab w):
 Calls Tryz.prog 148 #[.slice (some ⟨g,off,none⟩) l.length cap] w fun e w'=> e= .returned (.tuple #[hashV (foldP l),.nilIface])∧Ext w w':=by
 obtain ⟨c,hcl⟩:∃c,l.length=c+1:=⟨l.length - 1,by omega⟩;have X0:=(Upd.refl none' w).alloc (.cells zero32 33);have HX0:=ZA X0;have HT:=ZA htab;have HG:=ZA hG;have HQ0:=ZA (blk_alloc w (.cells zero32 33));have HQ1:Hid (((w.alloc (.cells zero32 33)).alloc (.cells zero32 33)).heap[w.heap.size+1]? =some (.cells zero32 33 (0,0))):=ZA (by have:=blk_alloc (w.alloc (.cells zero32 33)) (.cells zero32 33);rwa [World.size_alloc] at this)
 have HH:=ZA h32;have hx0:=h32.getD c (by omega);have HXL:=ZA hx0;have HC0:=ZA (hash_at (hc.ext X0) h32 c (by omega));have HC:=ZA hc;have HF:=ZA (show foldP l=cr nodeH (l.take c) c (l.getD c []) by unfold foldP;rw[if_neg (by intro e;rw[e] at hcl;simp at hcl),hcl];rfl)
 have HCL:=ZA hcl;have HS0:=ZA (hash_size32 _ hx0);have HZ0:=ZA (show zero32.size=((l.getD c []).map u8v).length by rw[List.length_map,hx0];rfl);rw[hcl];have hn0:((((c+1:Nat):Int))==0)=false:=by simp;omega
 have hc64:c≤63:=by omega
 have hlt:(c:Int) < ((c+1:Nat):Int):=by omega
 have hw1:(((c+1:Nat):Int)) - 1=c:=by omega
 generalize hlast:l.getD c []=x at*;clear hcl hl h0 h32 hc X0 hx0 hlast htab hG;go_enter Tryz.func148,Tryz.ntmps148;go_wp2_with (first
  | refine wpList_loadAgg rfl 33 _ rfl g (off+c*32) rfl (x.map u8v) Tryz.underlying33 rfl HS0.o HC0.o ?_
  | refine wpList_storeAgg rfl 33 _ _ rfl (w.heap.size+1) 0 rfl (x.map u8v) rfl HS0.o zero32.toList 33 HQ1.o (by rw[List.length_map,HXL.o];exact Nat.le_refl _) (u8_ones x) ?_)
 have HOV:Hid (over zero32.toList 0 (x.map u8v)=x.map u8v):=ZA (over_all _ _ HZ0.o);rw[show over _ 0 (x.map u8v)=x.map u8v from HOV.o];have HQ2:=ZA (blk_setRow HQ1.o (x.map u8v).toArray);have HX2:Hid (Ext w (((w.alloc (.cells zero32 33)).alloc (.cells zero32 33)).setRow (w.heap.size+1) (x.map u8v).toArray)):=ZA ((HX0.o.alloc (.cells zero32 33)).setRow (.inl (by omega)) _);have HR2:Hid ((((w.alloc (.cells zero32 33)).alloc (.cells zero32 33)).setRow (w.heap.size+1) (x.map u8v).toArray).heap[w.heap.size]? =some (.cells zero32 33 (0,0))):=ZA (blk_setRow_ne (blk_alloc_lt HQ0.o _) (by omega) _);generalize ((w.alloc (.cells zero32 33)).alloc (.cells zero32 33)).setRow (w.heap.size+1) (x.map u8v).toArray=W at*;generalize hhb:w.heap.size+1=hb at*;have HHB:=ZA hhb;clear hhb hn0 hlt;have hw2:((c+1:Nat):Int) - 2=(c:Int) - 1:=by omega
 go_loopw [5] (fun iv wr=> ∃t:Nat,t≤c∧iv= .int .i64 ((c:Int) - 1 - t)∧wr.heap[hb]? =some (.cells ((cr nodeH (l.take c) t x).map u8v).toArray 33 (0,0))∧Upd (one hb) W wr) (fun iv _=> (RowKit.intOf iv+1).toNat);case atStart=> exact ⟨0,by omega,by simp <;> omega,by rw[cr_zero];exact HQ2.o,Upd.refl _ _⟩
 case round=>
  obtain ⟨t,ht,rfl,hq,hu⟩:=hrel;have HQ:=ZA hq;have HU:=ZA hu;have HTC:=ZA ht;have HLT:=ZA (show (l.take c).length=c by rw[List.length_take];have:=HCL.o;omega);have HY:=ZA (cr_len32 (HH.o.take c) HXL.o t (by rw[HLT.o];exact ht));have HXW:Hid (Ext w wr):=ZA (HX2.o.then hu (fun k hk e=> by have h1:=HHB.o;have h2:k=hb:=e;omega));clear hq hu;by_cases hlt:t < c
  ·obtain ⟨i,hi⟩:∃i,i=c - 1 - t:=⟨_,rfl⟩;have hii:(c:Int) - 1 - t=i:=by omega
   rw[hii];have hi0:(0:Int)≤i:=by omega
   have hic:(i:Int) < ((c+1:Nat):Int):=by omega
   have hi64:i≤63:=by omega
   have HI:=ZA (⟨hi,hlt⟩:i=c - 1 - t∧t < c);have HYI:=ZA (HH.o.getD i (by have:=HCL.o;omega));have HSTEP:=ZA (show cr nodeH (l.take c) (t+1) x=nodeH (l.getD i []) (cr nodeH (l.take c) t x) by rw[cr_succ nodeH _ _ _ (by rw[HLT.o];exact hlt),HLT.o,←hi];congr 1;rw[List.getD_eq_getElem?_getD,List.getD_eq_getElem?_getD,List.getElem?_take,if_pos (by omega)])
   have HCI:=ZA (fun (w7:World) (h7:Ext wr w7)=> hash_at (HC.o.ext (HXW.o.trans h7)) HH.o i (by have:=HCL.o;omega));have HCH:=ZA (fun (w7:World) (h7:Ext wr w7)=> blk_cells (Ext.blk h7 HQ.o));have HSI:=ZA (hash_size32 _ HYI.o);have HSY:=ZA (hash_size32 _ HY.o);generalize l.getD i []=a at*;generalize cr nodeH (l.take c) t x=y at*;clear hi hlt ht hii;go_wp2_with fail;refine region_inv_tail 6 (fun w'=> Ext wr w') (by kernel_rfl) (by kernel_rfl) (by kernel_rfl) (by kernel_rfl) (by kernel_rfl) (by kernel_rfl) ((Upd.refl none' _).drew) ?_;simp only[List.take_succ_cons,List.take_zero,List.drop_succ_cons,List.drop_zero];refine inv_move rfl rfl (.slice (some ⟨g,off,none⟩) (c+1) cap) rfl ?_;refine inv_norm (by go_simp;exact rfl) ?_;refine inv_move rfl rfl (.int .i64 i) rfl ?_;refine inv_norm (by go_simp;exact rfl) ?_;refine inv_indexSlice rfl rfl g off (c+1) cap i 32 33 rfl rfl (by have:=HI.o;omega) Tryz.underlying113 hash_size ?_;refine inv_norm (by go_simp;exact rfl) ?_;refine inv_loadAgg rfl 33 _ rfl g (off+i*32) rfl (a.map u8v) Tryz.underlying33 rfl HSI.o HCI.o ?_;refine inv_norm (by go_simp;exact rfl) ?_;refine inv_loadAgg rfl 33 _ rfl hb 0 rfl (y.map u8v) Tryz.underlying33 rfl HSY.o HCH.o ?_;refine inv_norm (by go_simp;exact rfl) ?_;refine inv_call (v:=hashV (nodeH a y)) rfl 55 [.tmp 27,.tmp 28] _ rfl body_node [hashV a,hashV y] rfl (fun w7 h7=> (node_h w7 a y HYI.o HY.o (Nat.lt_of_lt_of_le HG.o (Nat.le_trans HXW.o.size h7.size)) (HT.o.ext (HXW.o.trans h7))).mono (by rintro e w8 ⟨rfl,hx⟩;exact ⟨rfl,Upd.trans h7 hx⟩)) ?_;refine inv_norm (by go_simp;exact rfl) ?_;refine inv_nil ?_;intro w5 h5;have HQ5:=ZA (Ext.blk h5 HQ.o);have HU5:Hid (Upd (one hb) W w5):=ZA (HU.o.trans (Upd.ext h5 _));have HSN:=ZA (hash_size32 (nodeH a y) (nodeH_len a y));have HOVN:Hid (over (y.map u8v) 0 ((nodeH a y).map u8v)=(nodeH a y).map u8v):=ZA (over_all _ _ (by rw[List.length_map,List.length_map,HY.o,nodeH_len]));clear h5;go_wp2_with (refine wpList_storeAgg rfl 33 _ _ rfl hb 0 rfl ((nodeH a y).map u8v) rfl HSN.o (y.map u8v) 33 HQ5.o (by rw[List.length_map,List.length_map,HY.o,nodeH_len];exact Nat.le_refl _) (u8_ones _) ?_);rw[HOVN.o,←HSTEP.o];have hI:=HI.o;refine ⟨⟨t+1,by omega,?_,blk_setRow HQ5.o _,HU5.o.setRow (.inr rfl) _⟩,by simp[RowKit.intOf] <;> omega⟩;simp;omega
  ·have hii:(c:Int) - 1 - t= -1:=by omega
   rw[hii];have HE:=ZA (show t=c by omega);have HR5:=ZA (HU.o.blk HR2.o (fun e=> by have h1:=HHB.o;have h2:w.heap.size=hb:=e;omega));have HCY:=ZA (blk_cells HQ.o);have HFY:Hid (cr nodeH (l.take c) t x=foldP l):=ZA (by rw[HF.o,HE.o]);rw[HFY.o] at HCY HY;have HSY:=ZA (hash_size32 _ HY.o);have HOVY:Hid (over zero32.toList 0 ((foldP l).map u8v)=(foldP l).map u8v):=ZA (over_all _ _ (by rw[List.length_map,HY.o];rfl));generalize hRF:foldP l=R at*;have HRF:=ZA hRF;clear hlt ht hii hRF;go_wp2_with (first
    | refine wpList_loadAgg rfl 33 _ rfl hb 0 rfl (R.map u8v) Tryz.underlying33 rfl HSY.o HCY.o ?_
    | refine wpList_storeAgg rfl 33 _ _ rfl w.heap.size 0 rfl (R.map u8v) rfl HSY.o zero32.toList 33 HR5.o (by rw[List.length_map,HY.o];exact Nat.le_refl _) (u8_ones R) ?_)
   rw[show over _ 0 (R.map u8v)=R.map u8v from HOVY.o];have HQF:=ZA (blk_setRow HR5.o (R.map u8v).toArray);have hsz:(Tryz.prog.info? 33).map (·.size)=some (R.map u8v).toArray.size:=HSY.o;exact bodyPost_ret (v:= .tuple #[hashV R,.nilIface]) (results_cell_twoV rfl _ _ w.heap.size 33 _ (0,0) _ _ rfl rfl HQF.o Tryz.underlying33 rfl hsz) rfl ⟨by rw[HRF.o],HXW.o.setRow (.inl (Nat.le_refl _)) _⟩
theorem rsroot_any(w:World)(A:Option Addr)(es:List (List HB))(cap:Nat)(hA:EdAt w A es)(h32:E32 es)(hl:es.length≤8)(hG:21 < w.heap.size)(htab:ShaTab w):
 Calls Tryz.prog 44 #[.slice A es.length cap] w fun e w'=> e= .returned (.tuple #[hashV (rootE es),.nilIface])∧Ext w w':=by
 obtain ⟨i0,hi0,hz0,hz1,hz2⟩:=info_parts info_hash;have HA:=ZA hA;have H32':=ZA h32;have HT:=ZA htab;have HG:=ZA hG;have hli:(es.length:Int)≤8:=by omega
 clear hA h32 htab hG;go_enter Tryz.func44,Tryz.ntmps44;go_wp2_with fail;obtain ⟨W,hW⟩:∃W,W=w.alloc (.cells zero32 33):=⟨_,rfl⟩;obtain ⟨q,hq⟩:∃q,q=w.heap.size:=⟨_,rfl⟩;have HXW:Hid (Ext w W):=ZA (hW▸(Upd.refl none' w).alloc _);have HQ:Hid (W.heap[q]? =some (.cells zero32 33 (0,0))):=ZA (by rw[hW,hq];exact blk_alloc w _);have HQL:Hid (w.heap.size≤q∧q < W.heap.size):=ZA ⟨by omega,by rw[hW,World.size_alloc];omega⟩;rw[←hW,←hq];clear hW hq;have HA:=ZA (HA.o.ext HXW.o);have HT:=ZA (HT.o.ext HXW.o);have HG:=ZA (Nat.lt_of_lt_of_le HG.o HXW.o.size);go_loopw [4,5] (fun v kv wr=> PkRel W.heap.size es W v kv wr) (fun _ kv _=> (RowKit.intOf kv+1).toNat);case atStart=> exact ⟨es.length,_,Nat.le_refl _,rfl,rfl,by rw[List.drop_length];exact World.ownsRow_nil _ _ _ _,Upd.refl _ _⟩
 case round=>
  obtain ⟨k,i,hk,hi,rfl,ho,hx⟩:=hrel;have HO:=ZA ho;have HX:=ZA hx;have HI:=ZA hi;by_cases hlt:0 < k
  ·obtain ⟨m,rfl⟩:∃m,k=m+1:=⟨k - 1,by omega⟩;have him:i=(m:Int):=by omega
   subst him;have hml:m < es.length:=by omega
   have hmi:(m:Int) < es.length:=by omega
   obtain ⟨gA,oA,a,ec,rfl,hcell,hec,hE,hEa⟩:=HA.o m es[m] (List.getElem?_eq_getElem hml);have HP:=ZA (show peaksE nodeH (es.drop m)=peaksE nodeH (es.drop (m+1))++pkD nodeH 8 es[m] from by rw[List.drop_eq_getElem_cons hml];rfl);obtain ⟨he32,hel⟩:=H32'.o es[m] (List.getElem_mem hml);have HPL:=ZA (show (peaksE nodeH (es.drop (m+1))).length≤8192 from by have:=peaksE_len (es.drop (m+1));rw[List.length_drop] at this;omega);have HP32:=ZA (peaksE_32 (es.drop (m+1)) (fun x hx=> H32'.o x (List.mem_of_mem_drop hx)));generalize es[m]=e at*;generalize peaksE nodeH (es.drop (m+1))=P0 at*;have HE32:=ZA he32;have HEL:=ZA hel;have HCELL:=ZA hcell;have HEC:=ZA hec;have HE:=ZA hE;have HEA:=ZA hEa;clear ho hx hi he32 hel hcell hec hE hEa hk hlt;go_wp2_with fail;obtain ⟨w3,hw3⟩:∃w3:World,w3=wr:=⟨_,rfl⟩;subst hw3;go_loopw [4,6,7] (fun v av nv wr=> PjRel W.heap.size e P0 W v av nv wr) (fun _ _ nv _=> (RowKit.intOf nv).toNat);case atStart=> exact ⟨8,0,P0,by omega,rfl,rfl,Nat.zero_le _,rfl,by rw[Nat.sub_zero];exact HEL.o,by rw[List.drop_zero],by omega,HP32.o,HO.o,HX.o⟩
   case round=>
    obtain ⟨j,q,acc,hj,rfl,rfl,hq,hqm,hqr,hacc,hal,ha32,ho2,hx2⟩:=hrel;have HO2:=ZA ho2;have HX2:=ZA hx2;have HACC:=ZA hacc;have HA32:=ZA ha32;have HAL:=ZA hal;have HEX:=ZA (show Ext W wr from hx2.mono (fun g h1 h2=> by have h3:W.heap.size≤g:=h2;omega));obtain ⟨AV,cv,rfl⟩:=own_sl ho2;clear ho2 hx2 hacc ha32 hal;cases j with
    | zero=>
     have hn:¬(0:Int) < (bitOf 0:Nat):=by decide
     have hfin:acc=P0++pkD nodeH 8 e:=by have h:=HACC.o;have h0:pkD nodeH 0 (e.drop q)= []:=rfl;rw[h0,List.append_nil] at h;exact h
     have HFIN:=ZA hfin;clear hfin;go_wp2_with fail;exact ⟨⟨m,(m:Int) - 1,by omega,rfl,rfl,by rw[HP.o,←HFIN.o];exact HO2.o,HX2.o⟩,by simp[RowKit.intOf]⟩
    | succ j=>
     have hj7:j≤7:=by omega
     have hpl:=pow_le j hj7;have hh:=bitOf_half j;have hel:=HEL.o;have hand:=and_bit e.length j hel (by omega);have hbh:=bit_hi (L:=e.length) (q:=q) (c:=2 ^ j) (by omega) (by rw[←hqm,Nat.pow_succ,Nat.mul_comm]) hq (by rw[Nat.pow_succ] at hqr;omega);rw[hbh] at hand;have hcell:=Ext.cellv HEX.o HCELL.o;have hqm2:q % 2 ^ j=0:=by
      have h1:q % (2 ^ j*2)=0:=by rw[←Nat.pow_succ];exact hqm
      obtain ⟨t,ht⟩:=Nat.dvd_of_mod_eq_zero h1;rw[ht,Nat.mul_assoc];exact Nat.mul_mod_right _ _
     have hpk:pkD nodeH (j+1) (e.drop q)=if 2 ^ j≤(e.drop q).length then whole nodeH j ((e.drop q).take (2 ^ j))::pkD nodeH j ((e.drop q).drop (2 ^ j)) else pkD nodeH j (e.drop q):=rfl;have C:=fun (gb ob:Nat) (he:a=some ⟨gb,ob,none⟩) (hf:q+2 ^ j≤e.length)=> thash_any wr gb ob ec e HE32.o (by have:=HE.o.ext HEX.o;rw[he] at this;exact this) (by omega) HEC.o q j hj7 hqm2 hf (by have:=HG.o;have:=HEX.o.size;omega) (HT.o.ext HEX.o);rw[List.length_drop] at hpk;have hwt:whole nodeH j ((e.drop q).take (2 ^ j))=whole nodeH j (e.drop q):=whole_take nodeH j _ _ (Nat.le_refl _);rw[hwt,List.drop_drop] at hpk;have hwl:=fun (h:q+2 ^ j≤e.length)=> whole_len j (e.drop q) (HE32.o.drop q) (by rw[List.length_drop];omega);have hq2:q+2 ^ j≤e.length→(q+2 ^ j) % 2 ^ j=0:=fun _=> by rw[Nat.add_mod_right];exact hqm2
     have hr2:e.length - q < 2*2 ^ j:=by rw[Nat.pow_succ] at hqr;omega
     rw[bitOf_succ] at hh⊢;generalize whole nodeH j (e.drop q)=x at*;generalize hc:2 ^ j=c at*;have HACC2:=ZA HACC.o;rw[hpk] at HACC2;have HC:=ZA C;have HWL:=ZA hwl;have HQ2:=ZA hq2;have HQM2:=ZA hqm2;have HCC:=ZA hc;have hci:(0:Int) < c:=by omega
     have hdiv:(c:Int) / 2=(bitOf j:Nat):=by omega
     have hc1:(c:Int)≤128:=by omega
     clear C hwl hq2 hqm2 hc hpk hbh hqm hqr hwt;by_cases hhi:c≤e.length - q
     ·rw[if_pos hhi] at hand HACC2;simp only[if_true] at hand;have hf:q+c≤e.length:=by omega
      have hpos:0 < e.length:=by omega
      obtain ⟨gb,ob,rfl⟩:∃gb ob,a=some ⟨gb,ob,none⟩:=by
       rcases HEA.o with h | ⟨g2,o2,h⟩
       ·exfalso;have hl0:0 < (hcells e).length:=by rw[hcells_len HE32.o];omega
        obtain ⟨ad,h2,_⟩:=HE.o 0 _ (List.getElem?_eq_getElem hl0);rw[h] at h2;cases h2
       ·exact ⟨g2,o2,h⟩
      have C:=HC.o gb ob rfl hf;have hx32:=HWL.o hf;have hne:((c:Int)==0)=false:=by simp;omega
      have hcn:¬(c=0):=by omega
      have HF:=ZA hf;have HX32:=ZA hx32;have HSZ:=ZA (hash_size32 x hx32);have HO1:=ZA (u8_ones x);have HZ:=ZA (show zero32.size=(x.map u8v).length by rw[List.length_map,hx32];rfl);have hqi:(q:Int)+c≤256:=by omega
      have HHI:=ZA hhi;clear hhi hf hx32 hel hh hpl hpos;go_wp2_with fail;refine C.mono ?_;rintro e5 w5 ⟨rfl,hx5⟩;have HX5:=ZA hx5;have HC7:=ZA (blk_cells (blk_alloc w5 (.cells (x.map u8v).toArray 33)));have HL7:=ZA (lt_of_blk (blk_alloc w5 (.cells (x.map u8v).toArray 33)));have HZH:=ZA (show ((Tryz.prog.info? 33).bind (·.zero)).isSome=true from by kernel_rfl);have HP3:=ZA (show 0 < (x.map u8v).length∧(x.map u8v).length≤16777216 by rw[List.length_map,HX32.o];decide);have HX8:=ZA ((hx5.alloc (.cells (x.map u8v).toArray 33)).alloc (.cells (x.map u8v).toArray 33));have HO8:=ZA (ownsRow_upd HO2.o HX8.o (fun _ _=> id));have HLN:=ZA (show (x.map u8v).length=1*32 by rw[List.length_map,HX32.o]);have HM:=ZA (show acc.length+1≤maxLen∧(acc.length+1)*32≤140737488355328 by have:=HAL.o;have:=HPL.o;unfold maxLen;omega);have HBW:=ZA (show W.heap.size≤((w5.alloc (.cells (x.map u8v).toArray 33)).alloc (.cells (x.map u8v).toArray 33)).heap.size from Nat.le_trans HEX.o.size HX8.o.size);clear hx5 C;go_wp2_with (first
       | (refine store_new rfl 33 _ _ rfl _ _ rfl (x.map u8v) rfl HSZ.o HZ.o HO1.o ?_)
       | (refine wpList_loadAgg rfl 33 _ rfl w5.heap.size 0 rfl (x.map u8v) Tryz.underlying33 rfl HSZ.o HC7.o ?_)
       | (refine wpList_buildOne rfl 113 33 _ rfl (x.map u8v) rfl Tryz.underlying113 HSZ.o HZH.o HP3.o.1 HP3.o.2 ?_)
       | (at_builtin;(refine wpList_appX rfl _ _ 113 rfl W.heap.size 33 i0 _ 32 32 Tryz.underlying113 hi0 hz0 hz1 hz2 rfl (by decide) _ acc.length _ rfl HO8.o (some ⟨(w5.alloc (.cells (x.map u8v).toArray 33)).heap.size,0,none⟩) 1 1 (x.map u8v) (by rw[World.size_alloc];rfl) HLN.o (CellsAt.new _ _ _) HO1.o HM.o.1 HM.o.2 HBW.o ?_);intro A' c' w9 hown hgrow hat;have HOWN:=ZA hown;have HU9:=ZA ((HX2.o.thenExt HX8.o).grown hgrow (fun k hk=> .inr (HO8.o.lt k hk).1));clear hown hgrow hat))
      refine ⟨⟨j,q+c,acc++ [x],by omega,rfl,by simp,HF.o,by rw[HCC.o];exact HQ2.o HF.o,by rw[HCC.o];have:=HF.o;omega,by rw[List.append_assoc];exact HACC2.o,by have:=HAL.o;rw[List.length_append,List.length_singleton];omega,HA32.o.app (H32.cons HX32.o H32.nil),?_,HU9.o⟩,by simp[RowKit.intOf];omega⟩;rw[List.length_append,List.length_singleton,hcells_app,hcells_one];exact HOWN.o
     ·rw[if_neg hhi] at hand HACC2;simp only[Nat.zero_ne_one,if_false] at hand;have hlo:e.length - q < c:=by omega
      have HLO:=ZA hlo;clear hhi hlo hel hh hpl;go_wp2_with fail;refine ⟨⟨j,q,acc,by omega,rfl,rfl,hq,by rw[HCC.o];exact HQM2.o,by rw[HCC.o];exact HLO.o,HACC2.o,by have:=HAL.o;omega,HA32.o,HO2.o,HX2.o⟩,by simp[RowKit.intOf];omega⟩
  ·have hk0:k=0:=by omega
   subst hk0;have hki:¬(0:Int)≤i:=by omega
   have HO':=ZA HO.o;rw[List.drop_zero] at HO';clear ho hx hi;have HF:=ZA (show rootE es=foldP (peaksE nodeH es) from rfl);have HPL:=ZA (peaksE_len es);have HP32:=ZA (peaksE_32 es H32'.o);have HQR:=ZA (HX.o.blk HQ.o (fun h=> by have h3:W.heap.size≤q:=h;have:=HQL.o;omega));have HXR:Hid (Ext W wr):=ZA (HX.o.mono (fun g h1 h2=> by have h3:W.heap.size≤g:=h2;omega));generalize peaksE nodeH es=P at*;obtain ⟨R,hRE⟩:∃R,R=rootE es:=⟨_,rfl⟩;have HRE:=ZA hRE;rw[←hRE] at HF;clear hRE;obtain ⟨n,hn⟩:∃n,n=P.length:=⟨_,rfl⟩;have HN:=ZA hn;have HO2:=ZA HO'.o;rw[←hn] at HO2;by_cases h0:n=0
   ·have hP:P= []:=List.length_eq_zero_iff.1 (by omega);obtain ⟨A,c,rfl⟩:=own_sl HO2.o;have C:=empty_h wr (Nat.lt_of_lt_of_le HG.o HXR.o.size) (HT.o.ext HXR.o);have HR:Hid (R=emptyH):=ZA (by rw[HF.o,hP];rfl);have HSL:=ZA (hash_size32 emptyH emptyH_len);subst h0;clear hP hn;go_wp2_with fail;refine C.mono ?_;rintro e w1 ⟨rfl,hx1⟩;have HQ1:=ZA (Ext.blk hx1 HQR.o);have HX1:=ZA (HXW.o.trans (HXR.o.trans hx1));clear hx1 C;go_wp2_with (refine wpList_storeAgg rfl 33 _ _ rfl q 0 rfl (emptyH.map u8v) rfl HSL.o zero32.toList 33 HQ1.o (by rw[List.length_map,emptyH_len];exact Nat.le_refl _) (u8_ones emptyH) ?_);rw[show over zero32.toList 0 (emptyH.map u8v)=emptyH.map u8v from over_all _ _ (by rw[List.length_map,emptyH_len];rfl)];exact bodyPost_ret (v:= .tuple #[hashV emptyH,.nilIface]) (results_cell_twoV rfl _ _ q 33 _ (0,0) _ _ rfl rfl (blk_setRow HQ1.o _) Tryz.underlying33 rfl HSL.o) rfl ⟨by rw[←HRE.o,HR.o],HX1.o.setRow (.inl HQL.o.1) _⟩
   ·obtain ⟨A,c,rfl⟩:=own_sl HO2.o;obtain ⟨g,c9,hf, -⟩:∃g cr,Value.slice A n c= .slice (some ⟨g,0,none⟩) n cr∧W.heap.size≤g:=by
     rcases own_form HO2.o with ⟨_,h⟩ | h
     ·omega
     ·exact h
    cases hf
    have C:=pfold_any wr g 0 P c HP32.o (CellsAt.row32 HO2.o) (by omega) (by have:=HPL.o;omega) (Nat.lt_of_lt_of_le HG.o HXR.o.size) (HT.o.ext HXR.o);rw[←hn,←HF.o] at C;have HR32:Hid (R.length=32):=ZA (by rw[HF.o];exact foldP_len HP32.o);have HSL:=ZA (hash_size32 R HR32.o);have hne:((n:Int)==0)=false:=by simp;omega
    have hne2:¬(n:Int)=0:=by omega
    clear hn h0;go_wp2_with fail;refine C.mono ?_;rintro e w1 ⟨rfl,hx1⟩;have HQ1:=ZA (Ext.blk hx1 HQR.o);have HX1:=ZA (HXW.o.trans (HXR.o.trans hx1));clear hx1 C;go_wp2_with (refine wpList_storeAgg rfl 33 _ _ rfl q 0 rfl (R.map u8v) rfl HSL.o zero32.toList 33 HQ1.o (by rw[List.length_map,HR32.o];exact Nat.le_refl _) (u8_ones R) ?_);rw[show over zero32.toList 0 (R.map u8v)=R.map u8v from over_all _ _ (by rw[List.length_map,HR32.o];rfl)];exact bodyPost_ret (v:= .tuple #[hashV R,.nilIface]) (results_cell_twoV rfl _ _ q 33 _ (0,0) _ _ rfl rfl (blk_setRow HQ1.o _) Tryz.underlying33 rfl HSL.o) rfl ⟨by rw[←HRE.o],HX1.o.setRow (.inl HQL.o.1) _⟩
end Go.Proofs.YtjnjpgdoncbahaaGreatDoor
