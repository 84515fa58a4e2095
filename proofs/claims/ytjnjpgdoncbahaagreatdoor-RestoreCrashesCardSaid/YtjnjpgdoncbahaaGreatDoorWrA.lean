/- writer.there, puts, fits, long, Checkpoint by contracts. A checkpoint built out of an origin and a hash; a writer's cells. Two levels more in a growth: plain lemmas for the walk of growth.add. -/
import Derived.Test.YtjnjpgdoncbahaaGreatDoorDec
import Derived.Test.YtjnjpgdoncbahaaGreatDoorStNames
import Derived.Test.YtjnjpgdoncbahaaGreatDoorTxt
import Derived.Test.YtjnjpgdoncbahaaGreatDoorShaD
import Derived.Test.YtjnjpgdoncbahaaGreatDoorTwo
import Derived.Test.YtjnjpgdoncbahaaGreatDoorEmitAdd
import Derived.Test.YtjnjpgdoncbahaaGreatDoorGrW
import Derived.Test.YtjnjpgdoncbahaaGreatDoorAgg
namespace Go.Proofs.YtjnjpgdoncbahaaGreatDoor
open Go.RowKit Go.Lib
set_option maxRecDepth 20000
set_option maxHeartbeats 4000000
variable {A:Option Addr}{B I J b bb c ec eg g gb k lg m mb nb ne:Nat}{D:GrD}{S:Nat→Prop}{T e t:TypeId}{Ts:List TypeId}{V:GrV}{se:Nat→Addr}{tv v:Value}{vs:List Value}{w w' w1 w2 wn:World}{x:StD}
theorem put_no(G:Genv B se w)(H:StAt w b mb tv x)(s t:ByteArray)(k:Nat)(hr:x.refuse s=some (k,none)):
 Calls Tryz.prog 12 #[.pointer (some ⟨b,0,none⟩),.string s,.string t] w fun e w'=> e= .returned (sv se k)∧w=w':=by
 have C:=refused_any G H s;rw[hr] at C;change Calls _ _ _ _ (fun e w'=> e= .returned (sv se k)∧w=w') at C;clear G H hr;go_enter Tryz.func12,Tryz.ntmps12;go_wp2_with fail;refine C.mono ?_;rintro e w1 ⟨rfl,rfl⟩;go_wp2_with fail;go_ret;exact ⟨rfl,rfl⟩
theorem body_put:hasBody Tryz.prog 12=true:=by kernel_rfl
theorem body_is:hasBody Tryz.prog 144=true:=by kernel_rfl
theorem there_gen(G:Genv B se w)(p:Value)(k:Nat)(h1:1≤k)(h2:k≤16)
 (C:∀w',Ext w w'→Calls Tryz.prog 12 #[p,.string ⟨#[]⟩,.string ⟨#[]⟩] w' fun e w''=> e= .returned (sv se k)∧w'=w''):
 Calls Tryz.prog 57 #[p] w fun e w'=> e= .returned (.bool (!decide (k=1)))∧Ext w w':=by
 have HC:=ZA C;have HG:=ZA G;clear C G;go_enter Tryz.func57,Tryz.ntmps57;go_wp2_with fail;refine region_inv_tail 5 (fun w'=> Ext w w') (by kernel_rfl) (by kernel_rfl) (by kernel_rfl) (by kernel_rfl) (by kernel_rfl) (by kernel_rfl) ((Upd.refl none' w).drew) ?_;simp only[List.take_succ_cons,List.take_zero,List.drop_succ_cons,List.drop_zero];refine inv_move rfl rfl p rfl ?_;refine inv_norm (by go_simp;exact rfl) ?_;refine inv_call (v:=sv se k) rfl 12 [.tmp 3,.const (.string ⟨#[]⟩),.const (.string ⟨#[]⟩)] _ rfl body_put [p,.string ⟨#[]⟩,.string ⟨#[]⟩] rfl (fun w7 h7=> (HC.o w7 h7).mono (by rintro e w8 ⟨rfl,rfl⟩;exact ⟨rfl,h7⟩)) ?_;refine inv_norm (by go_simp;exact rfl) ?_;refine inv_load1 rfl rfl ⟨3,0,none⟩ (sv se 1) rfl Tryz.underlying24 rfl (fun w7 h7=> (HG.o.ext h7).cell 1 (by omega) (by omega)) ?_;refine inv_norm (by go_simp;exact rfl) ?_;refine inv_call (v:= .bool (decide (k=1))) rfl 144 [.tmp 4,.tmp 5] _ rfl body_is [sv se k,sv se 1] rfl (fun w7 h7=> (is_any (HG.o.ext h7) (k:=k) (p:=none) ⟨h1,h2,rfl⟩ 1 (by omega) (by omega)).mono (by rintro e w8 ⟨rfl,rfl⟩;exact ⟨rfl,h7⟩)) ?_;refine inv_norm (by go_simp;exact rfl) ?_;refine inv_not rfl rfl _ rfl ?_;refine inv_norm (by go_simp;exact rfl) ?_;refine inv_nil ?_;intro w5 h5;have H5:=ZA (show Ext w w5 from h5);clear h5;go_wp2_with fail;go_ret;exact ⟨rfl,H5.o⟩
theorem there_st(G:Genv B se w)(H:StAt w b mb tv x):
 Calls Tryz.prog 57 #[.pointer (some ⟨b,0,none⟩)] w fun e w'=> e= .returned (.bool true)∧Ext w w':=
 there_gen G _ 2 (by omega) (by omega) (fun w' u=> put_no (G.ext u) (H.ext u) ⟨#[]⟩ ⟨#[]⟩ 2 (by rfl))
structure Env (B:Nat) (se:Nat→Addr) (w:World):Prop where
 g:Genv B se w
 sg:21 < B
 all:∀w',Below B w w'→BlankTab w'∧Lib.Utf8Tabs 17 18 w'∧Tab10 w'∧ShaTab w'∧TabAt 20 Lib.deBruijn64tab w'
theorem Env.below(h:Env B se w)(k:Below B w w'):Env B se w':=⟨h.g.below k,h.sg,fun w'' k2=> h.all w'' (k.trans k2)⟩
theorem Env.ext(h:Env B se w)(u:Ext w w'):Env B se w':=h.below (Ext.below u h.g.size)
theorem Env.upd(h:Env B se w)(u:Upd S w w')(hS:∀k,S k→B≤k):Env B se w':=h.below (Upd.below u h.g.size hS)
theorem Env.bt(h:Env B se w):BlankTab w:=(h.all w (Below.refl _ _)).1
theorem Env.ut(h:Env B se w):Lib.Utf8Tabs 17 18 w:=(h.all w (Below.refl _ _)).2.1
theorem Env.t10(h:Env B se w):Tab10 w:=(h.all w (Below.refl _ _)).2.2.1
theorem Env.sh(h:Env B se w):ShaTab w:=(h.all w (Below.refl _ _)).2.2.2.1
theorem Env.tz(h:Env B se w):TabAt 20 Lib.deBruijn64tab w:=(h.all w (Below.refl _ _)).2.2.2.2
theorem Env.sgw(h:Env B se w):21 < w.heap.size:=Nat.lt_of_lt_of_le h.sg h.g.size
def headB:List UInt8:= [99,104,101,99,107,112,111,105,110,116]
theorem ck_len(o:List UInt8)(n:Nat)(root:HB)(hr:root.length=32):(ckC o n root).length=35:=by simp[ckC,hr]
theorem ck_size(o:List UInt8)(n:Nat)(root:HB)(hr:root.length=32):(Tryz.prog.info? 36).map (·.size)=some (ckC o n root).length:=by rw[ck_len o n root hr];kernel_rfl
theorem ckpt_len(o:List UInt8)(n:Nat)(root:HB)(ho:o.length≤64)(hn:n≤1048576)(hr:root.length=32):(ckptB o n root).length≤200:=by have h1:=dec_len n (by omega);have h2:=b64_len root;unfold ckptB;simp only[List.length_append,List.length_singleton];omega
theorem puts_any(E:Env B se w)(H:StAt w b mb tv x)(hB:B≤b)(hM:B≤mb)(o:List UInt8)(n:Nat)(root:HB)(hr:root.length=32)(ho:nameB o=true)(hol:o.length≤64)(hn:n≤1048576)(hnw:x.nw < 4611686018427387904)(hL:x.texts.length < 4611686018427387904):
 Calls Tryz.prog 62 #[.pointer (some ⟨b,0,none⟩),ckV o n root] w (PutPost se b mb tv w (x.put (str headB) (str (ckptB o n root)))):=by
 have X0:=(Upd.refl none' w).alloc (.cells (ckC o n root).toArray 36);have HQ:=ZA (blk_alloc w (.cells (ckC o n root).toArray 36));have HX:=ZA X0;have HCS:=ZA (ck_size o n root hr);have HC:=ZA (blk_cells HQ.o);have C:=format_any (w.alloc (.cells (ckC o n root).toArray 36)) o n root hr ho hol hn (E.ext X0).bt (E.ext X0).ut (E.ext X0).t10;have HE:=ZA E;have HH:=ZA H;have HBM:=ZA (⟨hB,hM⟩:B≤b∧B≤mb);have HT:=ZA (ckpt_len o n root hol hn hr);have HNW:=ZA hnw;have HLL:=ZA hL;generalize hr0:x.put (str headB) (str (ckptB o n root))=r at*;have HR0:=ZA hr0;clear E H hB hM X0 hr ho hol hn hnw hL hr0;go_enter Tryz.func62,Tryz.ntmps62;go_wp2_with (refine wpList_loadAgg rfl 36 _ rfl w.heap.size 0 rfl (ckC o n root) Tryz.underlying36 rfl HCS.o HC.o ?_);refine C.mono ?_;rintro e w1 ⟨rfl,hx1⟩;have HX1:=ZA (HX.o.trans hx1);clear hx1 C;have CP:=put_any (HE.o.ext HX1.o).g (HH.o.ext HX1.o) HBM.o.1 HBM.o.2 (str headB) (str (ckptB o n root)) (by rw[str_size];unfold maxLen;decide) (by rw[str_size];have:=HT.o;unfold maxLen;omega) HNW.o HLL.o;rw[HR0.o] at CP;go_wp2_with fail;refine CP.mono ?_;rintro e w2 ⟨rfl,hs,hu⟩;have HS:=ZA hs;have HU:=ZA (show Upd (two b mb) w w2 from (Upd.ext HX1.o (two b mb)).trans hu);clear hs hu CP;go_wp2_with fail;go_ret;exact ⟨rfl,HS.o,HU.o⟩
theorem ck_one(o:List UInt8)(n:Nat)(root:HB):∀u∈ckC o n root,u.oneCell'=true:=fun u hu=> by
 simp only[ckC,List.mem_cons,List.mem_append,List.not_mem_nil,or_false] at hu;rcases hu with rfl | rfl | hu | rfl
 ·rfl
 ·rfl
 ·exact u8_ones root u hu
 ·rfl
theorem ck_build(o:List UInt8)(k:Int)(root:HB)(hr:root.length=32):List.foldl (fun (cs:Array Value) (x:Value×Nat)=> cs.setIfInBounds (2+x.2) x.1) #[.string (str o),.int .u64 k,.int .u8 0,.int .u8 0,.int .u8 0,.int .u8 0,.int .u8 0,.int .u8 0,.int .u8 0,.int .u8 0,.int .u8 0,.int .u8 0,.int .u8 0,.int .u8 0,.int .u8 0,.int .u8 0,.int .u8 0,.int .u8 0,.int .u8 0,.int .u8 0,.int .u8 0,.int .u8 0,.int .u8 0,.int .u8 0,.int .u8 0,.int .u8 0,.int .u8 0,.int .u8 0,.int .u8 0,.int .u8 0,.int .u8 0,.int .u8 0,.int .u8 0,.int .u8 0,.slice none 0 0] ((root.map u8v).zipIdx)=(.string (str o):: .int .u64 k::(root.map u8v++ [.slice none 0 0])).toArray:=by have h:=fold_over 2 (root.map u8v) 0 (.string (str o):: .int .u64 k::(zero32.toList++ [.slice none 0 0])) (by simp[hr]);refine h.trans ?_;congr 1;unfold over;simp[hr]
theorem run_ck0(w:World)(o:List UInt8)(root:HB)(hr:root.length=32):(Instr.build 36 #[(0,.string (str o)),(2,hashV root)]).run Tryz.prog w= .ok (ckV o 0 root) w:=by have HB:=ck_build o 0 root hr;go_simp;rfl
theorem run_ckN(w:World)(o:List UInt8)(n:Nat)(root:HB)(hr:root.length=32):(Instr.build 36 #[(0,.string (str o)),(1,.int .u64 n),(2,hashV root)]).run Tryz.prog w= .ok (ckV o n root) w:=by have HB:=ck_build o n root hr;go_simp;rfl
def wrC(sp:Value)(o:List UInt8)(n:Nat)(root:HB)(ev:Value)(ended:Bool):List Value:=sp::(ckC o n root++ [ev,.bool ended])
theorem wr_len(sp:Value)(o:List UInt8)(n:Nat)(root:HB)(ev:Value)(ended:Bool)(hr:root.length=32):(wrC sp o n root ev ended).length=38:=by simp[wrC,ck_len o n root hr]
theorem wr_build(sp:Value)(C:List Value)(hC:C.length=35):List.foldl (fun (cs:Array Value) (x:Value×Nat)=> cs.setIfInBounds (1+x.2) x.1) #[sp,.string ⟨#[]⟩,.int .u64 0,.int .u8 0,.int .u8 0,.int .u8 0,.int .u8 0,.int .u8 0,.int .u8 0,.int .u8 0,.int .u8 0,.int .u8 0,.int .u8 0,.int .u8 0,.int .u8 0,.int .u8 0,.int .u8 0,.int .u8 0,.int .u8 0,.int .u8 0,.int .u8 0,.int .u8 0,.int .u8 0,.int .u8 0,.int .u8 0,.int .u8 0,.int .u8 0,.int .u8 0,.int .u8 0,.int .u8 0,.int .u8 0,.int .u8 0,.int .u8 0,.int .u8 0,.int .u8 0,.slice none 0 0,.slice none 0 0,.bool false] (C.zipIdx)=(sp::(C++ [.slice none 0 0,.bool false])).toArray:=by have h:=fold_over 1 C 0 (sp::([.string ⟨#[]⟩,.int .u64 0,.int .u8 0,.int .u8 0,.int .u8 0,.int .u8 0,.int .u8 0,.int .u8 0,.int .u8 0,.int .u8 0,.int .u8 0,.int .u8 0,.int .u8 0,.int .u8 0,.int .u8 0,.int .u8 0,.int .u8 0,.int .u8 0,.int .u8 0,.int .u8 0,.int .u8 0,.int .u8 0,.int .u8 0,.int .u8 0,.int .u8 0,.int .u8 0,.int .u8 0,.int .u8 0,.int .u8 0,.int .u8 0,.int .u8 0,.int .u8 0,.int .u8 0,.int .u8 0,.slice none 0 0]++ [.slice none 0 0,.bool false])) (by simp[hC]);refine h.trans ?_;congr 1;unfold over;simp[hC]
theorem run_wr(w:World)(g:Nat)(C:List Value)(hC:C.length=35):(Instr.build 144 #[(0,.pointer (some ⟨g,0,none⟩)),(1,.agg C.toArray)]).run Tryz.prog w= .ok (.agg (.pointer (some ⟨g,0,none⟩)::(C++ [.slice none 0 0,.bool false])).toArray) w:=by have HB:=wr_build (.pointer (some ⟨g,0,none⟩)) C hC;go_simp
theorem exec_build{P:Program}{o:Oper}{a:Act}(w:World)(l:List (Nat×Operand))(ho:o.op= .build t l.toArray)(vals:List (Nat×Value))(v:Value)(hp:l.map (fun x=> (x.1,a.eval x.2))=vals)(hr:(Instr.build t vals.toArray).run P w= .ok v w):(execOp a.eval o).run P w= .ok (.value v) w:=by
 have hp2:(l.toArray.map fun (i,x)=> (i,a.eval x))=vals.toArray:=by rw[←hp,List.map_toArray]
 simp only[execOp,ho,hp2,Sem.run_bind,hr,Result.andThen_ok];rfl
def Keeps(T:TypeId)(w w':World):Prop:=∀(b:Nat) (cs:Array Value) (f:Nat×Nat),w.heap[b]? =some (Obj.cells cs T f)→w'.heap[b]? =some (Obj.cells cs T f)
theorem Keeps.refl(T:TypeId)(w:World):Keeps T w w:=fun _ _ _ h=> h
theorem Keeps.trans(h:Keeps T w w1)(h':Keeps T w1 w2):Keeps T w w2:=fun b cs f hb=> h' b cs f (h b cs f hb)
theorem keeps_tys(u:Upd S w w')(hS:TysIn S w Ts)(hne:T∉Ts):Keeps T w w':=fun _ _ _ h=> blk_tys h u hS hne
theorem own_keeps{e size n:Nat}{xs:List Value}(h:w.ownsRow B e size v n xs)(k:Keeps e w w'):w'.ownsRow B e size v n xs:=by
 refine ⟨h.1,?_⟩;rcases h.2 with h0 | ⟨g,cap,cur,hv,hb,hg,h1⟩
 ·exact .inl h0
 ·exact .inr ⟨g,cap,cur,hv,hb,k _ _ _ hg,h1⟩
def grTys:List TypeId:= [153,216,33,113,157,160,4]
def KeepsG(w w':World):Prop:=∀T,T∉grTys→Keeps T w w'
theorem KeepsG.refl(w:World):KeepsG w w:=fun T _=> Keeps.refl T w
theorem KeepsG.trans(h:KeepsG w w1)(h':KeepsG w1 w2):KeepsG w w2:=fun T hT=> (h T hT).trans (h' T hT)
theorem keepsG_tys(u:Upd S w w')(hS:TysIn S w Ts)(h:∀T∈Ts,T∈grTys):KeepsG w w':=fun _ hT=> keeps_tys u hS (fun e=> hT (h _ e))
theorem KeepsG.ext(u:Ext w w'):KeepsG w w':=keepsG_tys u tys_none (by simp)
theorem nodeT:223∉grTys:=by decide
def lenT(gb:Nat)(w:World):Nat:=match w.cell? ⟨gb,3,none⟩ with | some (.slice _ n _)=> n | _=> 0
theorem newc{f:Nat×Nat}(h:w.heap[g]? =some (.cells #[v] e f)):∀i u,([v]:List Value)[i]? =some u→w.cell? ((⟨g,0,none⟩:Addr).add i)=some u:=fun i u hu=> by rw[show (⟨g,0,none⟩:Addr).add i=⟨g,i,none⟩ from by unfold Addr.add;split <;> simp_all,cell_of_blk h];simpa using hu
theorem blk_at(h:w.heap.size=g):(w.alloc (.cells #[v] e)).heap[g]? =some (.cells #[v] e (0,0)):=h▸blk_alloc w (.cells #[v] e)
theorem bool_one:∀u∈([.bool false]:List Value),u.oneCell'=true:=fun u hu=> by rw[List.mem_singleton.1 hu];rfl
theorem size_bools:(Tryz.prog.info? 151).map (·.size)=some 1:=by kernel_rfl
theorem size_laids:(Tryz.prog.info? 150).map (·.size)=some 1:=by kernel_rfl
theorem info_bool:(Tryz.prog.info? 4).map (fun i=> (i.zero,i.size,i.bytes))=some (some (.bool false),1,1):=by kernel_rfl
theorem info_lsl:(Tryz.prog.info? 157).map (fun i=> (i.zero,i.size,i.bytes))=some (some nilS,1,24):=by kernel_rfl
theorem moreT_fin{dv':Value}(h:GrAt B w gb V D)(u:Upd (fun g=> g=gb∨V.tv.ownBlock=some g∨V.dv.ownBlock=some g) w wn)
 (hb:wn.heap[gb]? =some (.cells #[.pointer (some ⟨V.bb,0,none⟩),V.ev,V.dv,V.tv] 153 (0,0)))
 (ht:wn.ownsRow B 4 1 (.slice A (D.ts.length+1) c) (D.ts.length+1) (D.ts.map Value.bool++ [.bool false])) (hd:wn.ownsRow B 157 1 dv' (D.ls.length+1) (V.dvs++ [nilS])):
 GrAt B ((wn.setCell ⟨gb,3,none⟩ (.slice A (D.ts.length+1) c)).setCell ⟨gb,2,none⟩ dv') gb {V with dv:=dv',tv:= .slice A (D.ts.length+1) c,dvs:=V.dvs++ [nilS]} {D with ls:=D.ls++ [[]],ts:=D.ts++ [false]}∧
  Upd (fun g=> B≤g) w ((wn.setCell ⟨gb,3,none⟩ (.slice A (D.ts.length+1) c)).setCell ⟨gb,2,none⟩ dv')∧lenT gb ((wn.setCell ⟨gb,3,none⟩ (.slice A (D.ts.length+1) c)).setCell ⟨gb,2,none⟩ dv')=D.ts.length+1∧KeepsG w ((wn.setCell ⟨gb,3,none⟩ (.slice A (D.ts.length+1) c)).setCell ⟨gb,2,none⟩ dv'):=by
 have b1:=blk_set hb 3 (.slice A (D.ts.length+1) c);have b2:=blk_set b1 2 dv';have u2:Upd (one gb) wn ((wn.setCell ⟨gb,3,none⟩ (.slice A (D.ts.length+1) c)).setCell ⟨gb,2,none⟩ dv'):=((Upd.refl (one gb) wn).setCell (p:=⟨gb,3,none⟩) (.inr rfl) _).setCell (p:=⟨gb,2,none⟩) (.inr rfl) _;have u3:=u.trans (u2.mono (fun g _ hg=> Or.inl hg));have hT:TysIn (fun g=> g=gb∨V.tv.ownBlock=some g∨V.dv.ownBlock=some g) w [153,157,4]:=fun g _ hg=> by
  rcases hg with e | e | e
  ·exact ⟨_,153,_,by simp,by rw[e];exact h.blk⟩
  ·obtain ⟨c,hc⟩:=rowT h.tr e;exact ⟨c,4,_,by simp,hc⟩
  ·obtain ⟨c,hc⟩:=rowT h.dr e;exact ⟨c,157,_,by simp,hc⟩
 refine ⟨GrAt.moreT h u3 hT b2 (ownsRow_upd hd u2 (fun g hg e=> rowNe hd hb (by decide) g hg e)) (ownsRow_upd ht u2 (fun g hg e=> rowNe ht hb (by decide) g hg e)),u3.mono (fun g _ hg=> ?_),?_,keepsG_tys u3 hT (by decide)⟩
 ·rcases hg with e | e | e
  ·rw[e];exact h.low
  ·exact (h.tr.lt g e).1
  ·exact (h.dr.lt g e).1
 ·unfold lenT;rw[cell_of_blk b2 3];rfl
theorem touch_fin{tg tc:Nat}(h:GrAt B w gb V D)(hv:V.tv= .slice (some ⟨tg,0,none⟩) D.ts.length tc)(hk:k < D.ts.length):
 GrAt B (w.setCell ⟨tg,k,none⟩ (.bool true)) gb V {D with ts:=D.ts.set k true}∧Upd (fun g=> B≤g) w (w.setCell ⟨tg,k,none⟩ (.bool true))∧KeepsG w (w.setCell ⟨tg,k,none⟩ (.bool true)):=by
 have htr:=h.tr;rw[hv] at htr;have hr:=row_set htr k hk (.bool true);have u:Upd (one tg) w (w.setCell ⟨tg,k,none⟩ (.bool true)):=(Upd.refl (one tg) w).setCell (p:=⟨tg,k,none⟩) (.inr rfl) _;have hT:TysIn (one tg) w [4]:=fun g _ hg=> by obtain ⟨c,hc⟩:=rowT htr (g:=tg) rfl;have e:g=tg:=hg;exact ⟨c,4,_,by simp,by rw[e];exact hc⟩
 refine ⟨GrAt.touch h u hT (by simp) ?_,u.mono (fun g _ hg=> ?_),keepsG_tys u hT (by decide)⟩
 ·rw[hv,List.map_set];exact hr
 ·have e:g=tg:=hg;rw[e];exact (htr.lt tg rfl).1
theorem push_fin{x:HB}(h:GrAt B w gb V D)(hk:k < D.es.length)(hv:V.ev= .slice (some ⟨eg,0,none⟩) D.es.length ec)
 (u:Upd (fun g=> (V.vs.getD k nilS).ownBlock=some g) w wn) (hm:(D.es.getD k []).length=m) (hrow:wn.ownsRow B 33 32 (.slice A (m+1) c) (m+1) (hcells (D.es.getD k [])++x.map u8v))
 (hat:∀g,(Value.slice A (m+1) c).ownBlock=some g→(V.vs.getD k nilS).ownBlock=some g∨w.heap.size≤g):
 GrAt B (wn.setCell ⟨eg,k,none⟩ (.slice A (m+1) c)) gb {V with vs:=V.vs.set k (.slice A (m+1) c)} {D with es:=D.es.set k (D.es.getD k []++ [x])}∧
  Upd (fun g=> B≤g) w (wn.setCell ⟨eg,k,none⟩ (.slice A (m+1) c))∧KeepsG w (wn.setCell ⟨eg,k,none⟩ (.slice A (m+1) c)):=by
 subst hm;have her:=h.er;rw[hv] at her;have h1:=own_ty her u (tyIn_row (h.ee k)) (by decide);have h2:=row_set h1 k hk (.slice A ((D.es.getD k []).length+1) c);have u1:Upd (fun g=> (V.vs.getD k nilS).ownBlock=some g∨g=eg) w (wn.setCell ⟨eg,k,none⟩ (.slice A ((D.es.getD k []).length+1) c)):=(u.mono (T:=fun g=> (V.vs.getD k nilS).ownBlock=some g∨g=eg) (fun g _ hg=> Or.inl hg)).setCell (p:=⟨eg,k,none⟩) (.inr (.inr rfl)) _;obtain ⟨ce,hce⟩:=rowT her (g:=eg) rfl;have hee:=ownsRow_upd (T:=one eg) hrow ((Upd.refl (one eg) wn).setCell (p:=⟨eg,k,none⟩) (.inr rfl) (.slice A ((D.es.getD k []).length+1) c)) (fun g hg e=> by obtain ⟨c1,hc1⟩:=rowT h1 (g:=eg) rfl;exact rowNe hrow hc1 (by decide) g hg e)
 have hT:TysIn (fun g=> (V.vs.getD k nilS).ownBlock=some g∨g=eg) w [33,113]:=fun g _ hg=> by
  rcases hg with e | e
  ·obtain ⟨c,hc⟩:=rowT (h.ee k) e;exact ⟨c,_,_,by simp,hc⟩
  ·rw[e];exact ⟨ce,_,_,by simp,hce⟩
 refine ⟨GrAt.pushE h hk u1 (fun g _ hg=> ?_) (by rw[hv];exact h2) (by rw[show hcells (D.es.getD k []++ [x])=hcells (D.es.getD k [])++x.map u8v by simp[hcells]];exact hee) hat,u1.mono (fun g _ hg=> ?_),keepsG_tys u1 hT (by decide)⟩
 ·rcases hg with e | e
  ·exact .inl e
  ·rw[e];exact .inr ⟨ce,_,hce⟩
 ·rcases hg with e | e
  ·exact ((h.ee k).lt g e).1
  ·rw[e];exact (her.lt eg rfl).1
theorem full_fin{i dc:Nat}(h:GrAt B w gb V D)(hk:k < D.es.length)(hkl:k < D.ls.length)(hv:V.ev= .slice (some ⟨eg,0,none⟩) D.es.length ec)(hd:V.dv= .slice (some ⟨lg,0,none⟩) D.ls.length dc)
 (u:Upd (fun g=> (V.dvs.getD k nilS).ownBlock=some g) w wn) (hm:(D.ls.getD k []).length=m) (hrow:wn.ownsRow B 160 4 (.slice A (m+1) c) (m+1) (laidCs (D.ls.getD k [])++ [.int .u8 k,.int .u64 i,.int .i64 256,V.vs.getD k nilS]))
 (hat:∀g,(Value.slice A (m+1) c).ownBlock=some g→(V.dvs.getD k nilS).ownBlock=some g∨w.heap.size≤g):
 GrAt B ((wn.setCell ⟨lg,k,none⟩ (.slice A (m+1) c)).setCell ⟨eg,k,none⟩ nilS) gb {V with vs:=V.vs.set k nilS,dvs:=V.dvs.set k (.slice A (m+1) c)} {D with es:=D.es.set k [],ls:=D.ls.set k (D.ls.getD k []++ [⟨k,i,256,D.es.getD k [],V.vs.getD k nilS⟩])}∧
  Upd (fun g=> B≤g) w ((wn.setCell ⟨lg,k,none⟩ (.slice A (m+1) c)).setCell ⟨eg,k,none⟩ nilS)∧KeepsG w ((wn.setCell ⟨lg,k,none⟩ (.slice A (m+1) c)).setCell ⟨eg,k,none⟩ nilS):=by
 subst hm;have her:=h.er;have hdr:=h.dr;rw[hv] at her;rw[hd] at hdr;obtain ⟨ce,hce⟩:=rowT her (g:=eg) rfl;obtain ⟨cl,hcl⟩:=rowT hdr (g:=lg) rfl;have e1:=own_ty her u (tyIn_row (h.de k)) (by decide);have d1:=own_ty hdr u (tyIn_row (h.de k)) (by decide);obtain ⟨ce1,hce1⟩:=rowT e1 (g:=eg) rfl;obtain ⟨cl1,hcl1⟩:=rowT d1 (g:=lg) rfl;have ul:Upd (one lg) wn (wn.setCell ⟨lg,k,none⟩ (.slice A ((D.ls.getD k []).length+1) c)):=(Upd.refl (one lg) wn).setCell (p:=⟨lg,k,none⟩) (.inr rfl) _;have d2:=row_set d1 k hkl (.slice A ((D.ls.getD k []).length+1) c);have e2:=ownsRow_upd (T:=one lg) e1 ul (fun g hg e=> rowNe e1 hcl1 (by decide) g hg e);have r2:=ownsRow_upd (T:=one lg) hrow ul (fun g hg e=> rowNe hrow hcl1 (by decide) g hg e);obtain ⟨ce2,hce2⟩:=rowT e2 (g:=eg) rfl;have ue:Upd (one eg) (wn.setCell ⟨lg,k,none⟩ (.slice A ((D.ls.getD k []).length+1) c)) ((wn.setCell ⟨lg,k,none⟩ (.slice A ((D.ls.getD k []).length+1) c)).setCell ⟨eg,k,none⟩ nilS):=(Upd.refl (one eg) _).setCell (p:=⟨eg,k,none⟩) (.inr rfl) _;have e3:=row_set e2 k hk nilS;have d3:=ownsRow_upd (T:=one eg) d2 ue (fun g hg e=> rowNe d2 hce2 (by decide) g hg e);have r3:=ownsRow_upd (T:=one eg) r2 ue (fun g hg e=> rowNe r2 hce2 (by decide) g hg e);have u1:Upd (fun g=> (V.dvs.getD k nilS).ownBlock=some g∨g=lg∨g=eg) w ((wn.setCell ⟨lg,k,none⟩ (.slice A ((D.ls.getD k []).length+1) c)).setCell ⟨eg,k,none⟩ nilS):=((u.mono (T:=fun g=> (V.dvs.getD k nilS).ownBlock=some g∨g=lg∨g=eg) (fun g _ hg=> Or.inl hg)).setCell (p:=⟨lg,k,none⟩) (.inr (.inr (.inl rfl))) _).setCell (p:=⟨eg,k,none⟩) (.inr (.inr (.inr rfl))) _;have hT:TysIn (fun g=> (V.dvs.getD k nilS).ownBlock=some g∨g=lg∨g=eg) w [160,157,113]:=fun g _ hg=> by
  rcases hg with e | e | e
  ·obtain ⟨c,hc⟩:=rowT (h.de k) e;exact ⟨c,_,_,by simp,hc⟩
  ·rw[e];exact ⟨cl,_,_,by simp,hcl⟩
  ·rw[e];exact ⟨ce,_,_,by simp,hce⟩
 refine ⟨GrAt.full h hk hkl u1 (fun g _ hg=> ?_) (by rw[hv];exact e3) (by rw[hd];exact d3) (by rw[show laidCs (D.ls.getD k []++ [⟨k,i,256,D.es.getD k [],V.vs.getD k nilS⟩])=laidCs (D.ls.getD k [])++ [.int .u8 k,.int .u64 i,.int .i64 256,V.vs.getD k nilS] by simp[laidCs,laidC]];exact r3) hat,u1.mono (fun g _ hg=> ?_),keepsG_tys u1 hT (by decide)⟩
 ·rcases hg with e | e | e
  ·exact .inl e
  ·rw[e];exact .inr ⟨cl,157,_,by simp,hcl⟩
  ·rw[e];exact .inr ⟨ce,113,_,by simp,hce⟩
 ·rcases hg with e | e | e
  ·exact ((h.de k).lt g e).1
  ·rw[e];exact (hdr.lt lg rfl).1
  ·rw[e];exact (her.lt eg rfl).1
section
variable {P:Program} {a:Act} {o:Oper}
theorem run_ixSl(w:World){x ix:Operand}(ho:o.op= .indexAddr t x ix)(g len cap k:Nat)(e:TypeId)(hx:a.eval x= .slice (some ⟨g,0,none⟩) len cap)(hi:a.eval ix= .int .i64 k)(hk:k < len)
 (hu:P.underlying t=some (.slice e)) (hs:(P.info? e).map (·.size)=some 1):(execOp a.eval o).run P w= .ok (.value (.pointer (some ⟨g,k,none⟩))) w:=by
 have hadd:(⟨g,0,none⟩:Addr).add k=⟨g,k,none⟩:=by unfold Addr.add;split <;> simp_all
 cases hq:P.info? e with
 | none=> simp[hq] at hs
 | some i=>
  have his:i.size=1:=by simpa[hq] using hs
  have hk2:(0:Int)≤(k:Int)∧(k:Int) < len:=by omega
  simp[execOp,ho,hx,hi,Instr.indexAt,run_underlying hu,asIntOf,sizeOf,typeInfo,hq,his,hk2,hk,hadd]
theorem run_ldA(w:World){x:Operand}{ty:TypeId}(ho:o.op= .load ty x)(g off:Nat)(hx:a.eval x= .pointer (some ⟨g,off,none⟩))(vs:List Value){d:TypeDesc}(hu:P.underlying ty=some d)(hd:aggD d=true)(hi:(P.info? ty).map (·.size)=some vs.length)
 (hc:∀j v,vs[j]? =some v→w.cell? ⟨g,off+j,none⟩=some v):(execOp a.eval o).run P w= .ok (.value (.agg vs.toArray)) w:=by
 simp only[execOp,ho,hx,Instr.loadAt,Instr.sureAddr,Sem.run_bind,Sem.run_pure,Result.andThen_ok,run_loadVar_at g off ty vs hu hd hi hc]
end
structure EdS (gb eg ne ec k nb:Nat) (vk:Value) (x:HB) (w:World):Prop where
 e:w.cell? ⟨gb,1,none⟩=some (.slice (some ⟨eg,0,none⟩) ne ec)
 c:w.cell? ⟨eg,k,none⟩=some vk
 h:∀j v,(x.map u8v)[j]? =some v→w.cell? ⟨nb,2+j,none⟩=some v
theorem EdS.of{dv:Value}{x:HB}(hb:w.heap[gb]? =some (.cells #[.pointer (some ⟨bb,0,none⟩),.slice (some ⟨eg,0,none⟩) ne ec,dv,tv] 153 (0,0)))
 (her:w.ownsRow B 113 1 (.slice (some ⟨eg,0,none⟩) ne ec) ne vs) (hn:w.heap[nb]? =some (.cells (ndc J I x).toArray 223 (0,0))) (hk:k < ne):EdS gb eg ne ec k nb (vs.getD k nilS) x w:=
 ⟨cell_of_blk hb 1,by
  have hl:=her.1;have:=her.cells (g:=eg) rfl k (vs.getD k nilS) (by rw[List.getD_eq_getElem?_getD,List.getElem?_eq_getElem (by omega)];rfl);rwa [Addr.add_lit,Nat.zero_add] at this,fun j v hv=> by
  rw[cell_of_blk hn,List.getElem?_toArray];show (Value.int .u8 J:: .int .u64 I::x.map u8v)[2+j]? =some v;rw[show 2+j=j+2 by omega];exact hv⟩
structure FuS (gb eg ne ec lg nl lc k nb I:Nat) (vk dk:Value) (w:World):Prop where
 e:w.cell? ⟨gb,1,none⟩=some (.slice (some ⟨eg,0,none⟩) ne ec)
 c:w.cell? ⟨eg,k,none⟩=some vk
 d:w.cell? ⟨gb,2,none⟩=some (.slice (some ⟨lg,0,none⟩) nl lc)
 l:w.cell? ⟨lg,k,none⟩=some dk
 n:w.cell? ⟨nb,1,none⟩=some (.int .u64 I)
theorem FuS.of{nl lc:Nat}{x:HB}{ds:List Value}(hb:w.heap[gb]? =some (.cells #[.pointer (some ⟨bb,0,none⟩),.slice (some ⟨eg,0,none⟩) ne ec,.slice (some ⟨lg,0,none⟩) nl lc,tv] 153 (0,0)))
 (her:w.ownsRow B 113 1 (.slice (some ⟨eg,0,none⟩) ne ec) ne vs) (hdr:w.ownsRow B 157 1 (.slice (some ⟨lg,0,none⟩) nl lc) nl ds) (hn:w.heap[nb]? =some (.cells (ndc J I x).toArray 223 (0,0))) (hk:k < ne) (hkl:k < nl):FuS gb eg ne ec lg nl lc k nb I (vs.getD k nilS) (ds.getD k nilS) w:=
 have E:=EdS.of hb her hn hk
 ⟨E.e,E.c,cell_of_blk hb 2,by
  have hl:=hdr.1;have:=hdr.cells (g:=lg) rfl k (ds.getD k nilS) (by rw[List.getD_eq_getElem?_getD,List.getElem?_eq_getElem (by omega)];rfl);rwa [Addr.add_lit,Nat.zero_add] at this,by
  rw[cell_of_blk hn,List.getElem?_toArray];rfl⟩
theorem run_tile(w:World)(k q n:Int):(Instr.build 115 #[(0,.int .u8 k),(1,.int .u64 q),(2,.int .i64 n)]).run Tryz.prog w= .ok (.agg #[.int .u8 k,.int .u64 q,.int .i64 n]) w:=by go_simp
theorem run_laid(w:World)(k q n:Int)(A:Option Addr)(m c:Nat):(Instr.build 160 #[(0,.agg #[.int .u8 k,.int .u64 q,.int .i64 n]),(1,.slice A m c)]).run Tryz.prog w= .ok (.agg #[.int .u8 k,.int .u64 q,.int .i64 n,.slice A m c]) w:=by go_simp
theorem info_laid:(Tryz.prog.info? 160).map (fun i=> (i.zero.map (·.cells.size),i.size,i.bytes))=some (some 4,4,48):=by kernel_rfl
theorem laid_parts:∃(j0:TypeInfo) (z:Value),Tryz.prog.info? 160=some j0∧j0.zero=some z∧j0.size=4∧j0.bytes=48∧z.cells.size=4:=by
 have h:=info_laid;cases hq:Tryz.prog.info? 160 with
 | none=> rw[hq] at h;cases h
 | some i=>
  rw[hq] at h;simp only[Option.map_some,Option.some.injEq,Prod.mk.injEq] at h;obtain ⟨h1,h2,h3⟩:=h;cases hz:i.zero with
  | none=> rw[hz] at h1;cases h1
  | some z=>
   rw[hz] at h1;exact ⟨i,z,rfl,hz,h2,h3,by simpa using h1⟩
theorem laid_zero:((Tryz.prog.info? 160).bind (·.zero)).isSome=true:=by kernel_rfl
theorem laid_size:(Tryz.prog.info? 160).map (·.size)=some 4:=by kernel_rfl
theorem size_laidSl:(Tryz.prog.info? 157).map (·.size)=some 1:=by kernel_rfl
end Go.Proofs.YtjnjpgdoncbahaaGreatDoor
