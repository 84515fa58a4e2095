/- The store by contracts: what lies in memory; may, take, New. The store by contracts: New, Restart, refused, Counts, Dead, Put. The store by contracts: refused, Put. The store by contracts: Get. The statements' copies of numbers: markInt, isInt, TwinInts, SameInts, LeftInts by contracts. -/
import Derived.Test.YtjnjpgdoncbahaaGreatDoorStMap
import Derived.Test.YtjnjpgdoncbahaaGreatDoorCode
import Derived.Test.YtjnjpgdoncbahaaGreatDoorAgg
import Derived.Laws.CopyOwn
import Derived.Laws.ResultCell
import Derived.OwnWalk
import Derived.Laws.Cover3
import Derived.Test.YtjnjpgdoncbahaaGreatDoorShelf
namespace Go.Proofs.YtjnjpgdoncbahaaGreatDoor
open Go.RowKit Go.Lib
set_option maxRecDepth 8000
set_option maxHeartbeats 8000000
variable {B b g i mb n:Nat}{S:Nat→Prop}{a:Option Addr}{e:TypeId}{se:Nat→Addr}{tv:Value}{w w':World}{xs:List Value}{zs:List Int}
def RdsAt(w:World)(a:Option Addr)(zs:List Int):Prop:=∀(i:Nat) (x:Int),zs[i]? =some x→∃g off,a=some ⟨g,off,none⟩∧w.cell? ⟨g,off+i,none⟩=some (.int .i64 x)
theorem RdsAt.ext(h:RdsAt w a zs)(u:Ext w w'):RdsAt w' a zs:=fun i x hx=> by obtain ⟨g,off,e,hc⟩:=h i x hx;exact ⟨g,off,e,u.cellv hc⟩
theorem RdsAt.nil(w:World)(a:Option Addr):RdsAt w a []:=fun i x hx=> by cases hx
def mayFrom:Int→List Int→Bool
 | _,[]=> true
 | l,n::r=> if n≤l then false else mayFrom n r
def mayR(zs:List Int):Bool:=mayFrom 0 zs
structure StD where
 texts:TxtL
 rs:List Int
 crash:Int
 nr:Nat
 nw:Nat
 dead:Bool
abbrev stRow(m tv:Value)(x:StD):Array Value:=#[m,tv,.int .i64 x.crash,.int .i64 (x.nr:Int),.int .i64 (x.nw:Int),.bool x.dead]
structure StAt (w:World) (b mb:Nat) (tv:Value) (x:StD):Prop where
 blk:w.heap[b]? =some (.cells (stRow (.map (some mb)) tv x) 45 (0,0))
 tex:MapAt w mb x.texts
 row:w.ownsRow 0 3 1 tv x.rs.length (x.rs.map (Value.int .i64))
 rise:mayR x.rs=true
theorem StAt.ne{x:StD}(h:StAt w b mb tv x):b≠mb:=fun e=> by obtain ⟨es,c,hb⟩:=h.tex.blk;rw[←e,h.blk] at hb;cases hb
theorem StAt.tvb{x:StD}(h:StAt w b mb tv x):tv.ownBlock≠some b:=fun e=> by
 have hr:=h.row;rcases hr.2 with ⟨hv,_⟩ | ⟨g,cap,cur,hv,_,hg,_⟩
 ·rw[hv] at e;cases e
 ·rw[hv] at e;obtain rfl:g=b:=by simpa[Value.ownBlock] using e
  rw[h.blk] at hg;simp only[Option.some.injEq,Obj.cells.injEq] at hg;exact absurd hg.2.1 (by decide)
theorem StAt.tvm{x:StD}(h:StAt w b mb tv x):tv.ownBlock≠some mb:=fun e=> by
 have hr:=h.row;obtain ⟨es,c,hb⟩:=h.tex.blk;rcases hr.2 with ⟨hv,_⟩ | ⟨g,cap,cur,hv,_,hg,_⟩
 ·rw[hv] at e;cases e
 ·rw[hv] at e;obtain rfl:g=mb:=by simpa[Value.ownBlock] using e
  rw[hb] at hg;cases hg
theorem rows_upd{e size:Nat}{v:Value}(h:w.ownsRow B e size v n xs)(u:Upd S w w')(hS:∀g,v.ownBlock=some g→¬S g):w'.ownsRow B e size v n xs:=by
 refine ⟨h.1,?_⟩;rcases h.2 with h0 | ⟨g,cap,cur,hv,hb,hg,h1,h2,h3,h4⟩
 ·exact .inl h0
 ·exact .inr ⟨g,cap,cur,hv,hb,u.blk hg (hS g (by rw[hv];rfl)),h1,h2,h3,h4⟩
theorem StAt.upd{x:StD}(h:StAt w b mb tv x)(u:Upd S w w')(hb:¬S b)(hm:¬S mb)(ht:∀g,tv.ownBlock=some g→¬S g):StAt w' b mb tv x:=
 ⟨u.blk h.blk hb,h.tex.upd u hm,rows_upd h.row u ht,h.rise⟩
theorem StAt.ext{x:StD}(h:StAt w b mb tv x)(u:Ext w w'):StAt w' b mb tv x:=h.upd u id id (fun _ _=> id)
theorem cell_int_at(h:RdsAt w a zs)(k:Nat)(hk:k < zs.length):∃g off,a=some ⟨g,off,none⟩∧w.cell? ⟨g,off+k,none⟩=some (.int .i64 zs[k]):=h k _ (List.getElem?_eq_getElem hk)
theorem mayFrom_drop(l:Int)(zs:List Int)(k:Nat)(hk:k < zs.length):mayFrom l (zs.drop k)=if zs[k]≤l then false else mayFrom zs[k] (zs.drop (k+1)):=by rw[List.drop_eq_getElem_cons hk];rfl
theorem may_any(a:Option Addr)(zs:List Int)(cap:Nat)(c:Int)(w:World)(h:RdsAt w a zs)(hz:zs.length≤4611686018427387904):
 Calls Tryz.prog 36 #[.agg #[.slice a zs.length cap,.int .i64 c]] w fun e w'=> e= .returned (.bool (mayR zs))∧Ext w w':=by
 have X:=(Upd.refl none' w).alloc (.cells #[.slice a zs.length cap,.int .i64 c] 29);have hb:=blk_alloc w (.cells #[.slice a zs.length cap,.int .i64 c] 29);have c0:=cell_of_blk hb 0;simp only[List.getElem?_toArray,List.getElem?_cons_zero] at c0;have HX:=ZA X;have HR:=ZA (h.ext X);have HM:=ZA (show mayFrom 0 (zs.drop 0)=mayR zs from rfl);have HZ:=ZA hz;generalize hr:mayR zs=r at*;clear h X hb hz hr;go_enter Tryz.func36,Tryz.ntmps36;go_wp2_with fail;generalize hW:w.alloc (.cells #[.slice a zs.length cap,.int .i64 c] 29)=W at*;go_loopw [3,9] (fun lv kv wr=> ∃(k:Nat) (l:Int),lv= .int .i64 l∧kv= .int .i64 k∧k≤zs.length∧mayFrom l (zs.drop k)=r∧wr=W) (fun _ kv _=> zs.length - (RowKit.intOf kv).toNat);case atStart=> exact ⟨0,0,rfl,rfl,Nat.zero_le _,HM.o,rfl⟩
 case round=>
  obtain ⟨k,l,rfl,rfl,hk,hm,rfl⟩:=hrel;by_cases hlt:k < zs.length
  ·have hki:(k:Int) < zs.length:=by omega
   obtain ⟨g,off,rfl,hc⟩:=cell_int_at HR.o k hlt;have HKM:=ZA ((mayFrom_drop l zs k hlt).symm.trans hm);have hkz:=HZ.o;generalize hx:zs[k]=x at*;clear hm hx;by_cases hle:x≤l
   ·have HRF:=ZA (show r=false from by have:=HKM.o;rw[if_pos hle] at this;exact this.symm);go_wp2_with fail;go_ret;exact ⟨by rw[HRF.o];rfl,HX.o⟩
   ·have HRF:=ZA (show mayFrom x (zs.drop (k+1))=r from by have:=HKM.o;rw[if_neg hle] at this;exact this);go_wp2_with fail;exact ⟨⟨k+1,x,rfl,by simp,by omega,HRF.o,trivial⟩,by simp[RowKit.intOf];omega⟩
  ·obtain rfl:k=zs.length:=by omega
   have HRF:=ZA (show r=true from by rw[List.drop_length] at hm;exact hm.symm);clear hm;have hki:¬(zs.length:Int) < zs.length:=by omega
   go_wp2_with fail;go_ret;exact ⟨by rw[HRF.o];rfl,HX.o⟩
theorem map_eq_nil{P:Program}{t k:TypeId}(m:Option Nat)(h:P.underlying t=some (.map k e))(w:World):(binOp .eql t (.map m) (.map none)).run P w= .ok (.bool m.isNone) w:=by simp only[binOp];simp[run_equal_map_nil w t k e m h]
theorem map_has(mb:Nat)(w:World):(binOp .eql 43 (.map (some mb)) (.map none)).run Tryz.prog w= .ok (.bool false) w:=map_eq_nil (some mb) Tryz.underlying43 w
theorem info_int:(Tryz.prog.info? 3).map (fun i=> (i.zero,i.size,i.bytes))=some (some (.int .i64 0),1,8):=by kernel_rfl
theorem int_size:(Tryz.prog.info? 3).map (·.size)=some 1:=by kernel_rfl
theorem own_full(h:w.ownsRow 0 e 1 (.slice (some ⟨g,0,none⟩) n n) n xs):w.heap[g]? =some (.cells xs.toArray e (0,0))∧xs.length=n:=by
 have h1:=h.1;rcases h.2 with ⟨hv,_⟩ | ⟨g',cap,cur,hv,_,hg,_,_,hs,ht⟩
 ·cases hv
 ·simp only[Value.slice.injEq,Option.some.injEq,Addr.mk.injEq,true_and,and_true] at hv;obtain ⟨rfl,rfl⟩:=hv;refine ⟨?_,by omega⟩;rw[hg,←ht];have:cur.toList.take (n*1)=cur.toList:=List.take_of_length_le (by rw[Array.length_toList];omega);rw[this]
theorem splice_full{α:Type}(L cs:List α)(h:cs.length=L.length):splice L 0 cs=cs:=by unfold splice;rw[List.take_zero,List.nil_append,List.drop_of_length_le (by omega),List.append_nil]
theorem row_of_full(hg:w.heap[g]? =some (.cells xs.toArray e (0,0)))(hx:xs.length≤maxLen):w.ownsRow 0 e 1 (.slice (some ⟨g,0,none⟩) xs.length xs.length) xs.length xs:=
 ⟨by omega,.inr ⟨g,xs.length,xs.toArray,rfl,Nat.zero_le _,hg,Nat.le_refl _,hx,by simp,by simp⟩⟩
theorem ints_one(zs:List Int):∀v∈zs.map (Value.int .i64),v.oneCell'=true:=fun v hv=> by obtain ⟨x,_,rfl⟩:=List.mem_map.1 hv;rfl
theorem take_any{m:Value}{x:StD}(a:Option Addr)(zs:List Int)(cap:Nat)(c:Int)(hb:w.heap[b]? =some (.cells (stRow m tv x) 45 (0,0)))(h:RdsAt w a zs)(hz:zs.length≤35184372088832):
 Calls Tryz.prog 37 #[.pointer (some ⟨b,0,none⟩),.agg #[.slice a zs.length cap,.int .i64 c]] w fun e w'=> e= .returned (.tuple #[])∧
  ∃tv',w'.heap[b]? =some (.cells (stRow m tv' {x with rs:=zs,crash:=c,nr:=0,nw:=0,dead:=false}) 45 (0,0))∧w'.ownsRow 0 3 1 tv' zs.length (zs.map (Value.int .i64))∧(∀g,tv'.ownBlock=some g→w.heap.size≤g)∧Upd (one b) w w':=by
 obtain ⟨i0,hi0,hz0,hz1,hz2⟩:=info_parts info_int;have X:=(Upd.refl none' w).alloc (.cells #[.slice a zs.length cap,.int .i64 c] 29);have hbx:=blk_alloc w (.cells #[.slice a zs.length cap,.int .i64 c] 29);have t0:=cell_of_blk hbx 0;simp only[List.getElem?_toArray,List.getElem?_cons_zero] at t0;have HX:=ZA X;have HB:=ZA (Ext.blk X hb);have HBX:=ZA hbx;have HR:=ZA (h.ext X);have HZ:=ZA (show i0.bytes*zs.length≤281474976710656∧zs.length≤maxLen by rw[hz2];unfold maxLen;omega);have HLT:=ZA (lt_of_blk hb);clear X hbx hb h hz;go_enter Tryz.func37,Tryz.ntmps37;go_wp2_with (at_make;refine wpList_make_full _ rfl _ _ 27 rfl 0 3 i0 (.int .i64 0) 1 Tryz.underlying27 hi0 hz0 hz1 .i64 .i64 _ _ zs.length rfl rfl rfl rfl HZ.o.1 HZ.o.2 (Nat.zero_le _) ?_);intro w2 hown hg;generalize hW:w.alloc (.cells #[.slice a zs.length cap,.int .i64 c] 29)=W at*;have X2:=HX.o.grown hg (fun k hk=> by cases hk);have E2:Ext W w2:=(Upd.refl none' W).grown hg (fun k hk=> by cases hk);have HB2:=ZA (Ext.blk E2 HB.o);have hbx:=Ext.blk E2 HBX.o;have t0:=cell_of_blk hbx 0;have t1:=cell_of_blk hbx 1;simp only[List.getElem?_toArray,List.getElem?_cons_zero,List.getElem?_cons_succ] at t0 t1;obtain ⟨hrow,hlen⟩:=own_full hown;have HROW:=ZA hrow;have HLEN:=ZA hlen;have HR2:=ZA (HR.o.ext E2);have HX2:=ZA X2;have HBX2:=ZA hbx;have HG2:=ZA (lt_of_blk hrow);clear hown hg X2 E2 hbx hrow hlen hi0 hz0 hz1 hz2 HB HBX HR HX;generalize (madeCells #[Value.int IntKind.i64 0] zs.length).toList=cur at*;generalize hgW:w.heap.size+1=gW at*;have HSZ:Hid (gW=w.heap.size+1):=ZA hgW.symm;clear hgW;have HPOS:Hid (0 < (zs.map (Value.int .i64)).length→(some ⟨gW,0,none⟩:Option Addr)=some ⟨gW,0,none⟩∧∃ad,a=some ad∧∀(j:Nat) (v:Value),(zs.map (Value.int .i64))[j]? =some v→w2.cell? (ad.add j)=some v):=ZA (fun hp=> ⟨rfl,by
  rw[List.length_map] at hp;obtain ⟨g,off,e,_⟩:=cell_int_at HR2.o 0 hp;refine ⟨_,e,fun j v hv=> ?_⟩;have hj:j < zs.length:=by have:=(List.getElem?_eq_some_iff.1 hv).1;rwa [List.length_map] at this
  obtain ⟨g',off',e',hc⟩:=cell_int_at HR2.o j hj;rw[e] at e';simp only[Option.some.injEq,Addr.mk.injEq,and_true] at e';obtain ⟨rfl,rfl⟩:=e';have ea:(⟨g,off,none⟩:Addr).add j=⟨g,off+j,none⟩:=by unfold Addr.add;split <;> simp_all
  rw[ea,hc];rw[List.getElem?_map,List.getElem?_eq_getElem hj] at hv;exact hv⟩)
 go_wp2_with (with_reducible refine wpList_copy_splice rfl _ _ _ _ rfl 3 Tryz.underlying27 int_size (some ⟨gW,0,none⟩) a zs.length zs.length zs.length cap rfl rfl gW 0 cur 3 HROW.o (zs.map (Value.int .i64)) (by rw[List.length_map];exact (Nat.min_self _).symm) HPOS.o (by rw[List.length_map,HLEN.o];omega) (ints_one zs) gW w2 (RowKit.Below.refl _ _) (Nat.le_refl _) ?_);intro w3 hrow3 hbel;have e3:=hrow3;change w3.heap[gW]? =_ at e3;rw[splice_full cur _ (by rw[List.length_map,HLEN.o])] at e3;have HROW3:=ZA e3;have U3:Upd (fun k=> gW≤k) w2 w3:=Upd.of_below hbel (fun k _ hk=> hk);have HBW:Hid (b < gW):=ZA (by have:=HLT.o;have:=HSZ.o;omega);have hb3:=U3.blk HB2.o (fun e=> by have:=HBW.o;omega);have hbx:=U3.blk HBX2.o (fun e=> by have:=HSZ.o;omega);have t0:=cell_of_blk hbx 0;have t1:=cell_of_blk hbx 1;have c1:=cell_of_blk hb3 1;have c2:=cell_of_blk hb3 2;have c3:=cell_of_blk hb3 3;have c4:=cell_of_blk hb3 4;have c5:=cell_of_blk hb3 5;have f1:=free_of_blk hb3 1;have f2:=free_of_blk hb3 2;have f3:=free_of_blk hb3 3;have f4:=free_of_blk hb3 4;have f5:=free_of_blk hb3 5;simp only[List.getElem?_toArray,List.getElem?_cons_zero,List.getElem?_cons_succ] at t0 t1 c1 c2 c3 c4 c5;have HB3:=ZA hb3;have HX3:=ZA (HX2.o.then U3 (fun k hk hg=> by have:=HSZ.o;omega:∀k,k < w.heap.size→gW≤k→none' k));clear hrow3 hbel e3 U3 hb3 hbx;go_wp2_with fail;go_end0;have b1:=blk_set (blk_set (blk_set (blk_set (blk_set HB3.o 1 (.slice (some ⟨gW,0,none⟩) zs.length zs.length)) 2 (.int .i64 c)) 3 (.int .i64 0)) 4 (.int .i64 0)) 5 (.bool false);have o3:=row_of_full HROW3.o (by rw[List.length_map];exact HZ.o.2);rw[List.length_map] at o3;have U:=fun k:Nat=> k;refine ⟨rfl,.slice (some ⟨gW,0,none⟩) zs.length zs.length,b1,rows_upd o3 ((((((Upd.refl (one b) w3).setCell (p:=⟨b,1,none⟩) (.inr rfl) _).setCell (p:=⟨b,2,none⟩) (.inr rfl) _).setCell (p:=⟨b,3,none⟩) (.inr rfl) _).setCell (p:=⟨b,4,none⟩) (.inr rfl) _).setCell (p:=⟨b,5,none⟩) (.inr rfl) _) (fun g hg e=> by
  have:gW=g:=by simpa[Value.ownBlock] using hg
  have e2:g=b:=e;have:=HBW.o;omega),fun g hg=> by
  have:gW=g:=by simpa[Value.ownBlock] using hg
  have:=HSZ.o;omega,?_⟩
 exact (((((Upd.ext HX3.o (one b)).setCell (p:=⟨b,1,none⟩) (.inr rfl) _).setCell (p:=⟨b,2,none⟩) (.inr rfl) _).setCell (p:=⟨b,3,none⟩) (.inr rfl) _).setCell (p:=⟨b,4,none⟩) (.inr rfl) _).setCell (p:=⟨b,5,none⟩) (.inr rfl) _
def evS(se:Nat→Addr):EV→Value
 | none=> .nilIface
 | some (k,_)=> sv se k
theorem new_ok2(w:World)(a:Option Addr)(zs:List Int)(cap:Nat)(c:Int)(h:RdsAt w a zs)(hz:zs.length≤35184372088832)(hm:mayR zs=true):
 Calls Tryz.prog 7 #[.agg #[.slice a zs.length cap,.int .i64 c]] w fun e w'=> ∃b mb tv,e= .returned (.tuple #[.pointer (some ⟨b,0,none⟩),.nilIface])∧StAt w' b mb tv ⟨[],zs,c,0,0,false⟩∧w.heap.size≤b∧w.heap.size≤mb∧Ext w w'∧(∀g,tv.ownBlock=some g→w.heap.size≤g):=by
 have X:=(Upd.refl none' w).alloc (.cells #[.slice a zs.length cap,.int .i64 c] 29);have hbx:=blk_alloc w (.cells #[.slice a zs.length cap,.int .i64 c] 29);have t0:=cell_of_blk hbx 0;have t1:=cell_of_blk hbx 1;simp only[List.getElem?_toArray,List.getElem?_cons_zero,List.getElem?_cons_succ] at t0 t1;have C:=may_any a zs cap c _ (h.ext X) (by omega);rw[hm] at C;have HX:=ZA X;have HH:=ZA h;have HM:=ZA hm;have HBX:=ZA hbx;have HZ:=ZA hz;clear X hbx h hm hz;have hmm:= @run_makeMap Tryz.prog;go_enter Tryz.func7,Tryz.ntmps7;go_wp2_with fail;refine C.mono ?_;rintro e w2 ⟨rfl,u⟩;have HX2:=ZA (HX.o.trans u);have hbx:=Ext.blk u HBX.o;have hbs:=blk_alloc (w2.alloc (.map #[] 0)) (.cells (stRow (.map (some w2.heap.size)) (.slice none 0 0) ⟨[],[],0,0,0,false⟩) 45);rw[World.size_alloc] at hbs;have XS:=((Upd.refl none' w2).alloc (.map #[] 0)).alloc (.cells (stRow (.map (some w2.heap.size)) (.slice none 0 0) ⟨[],[],0,0,0,false⟩) 45);have hbt:=Ext.blk XS hbx;have t0:=cell_of_blk hbt 0;have t1:=cell_of_blk hbt 1;simp only[List.getElem?_toArray,List.getElem?_cons_zero,List.getElem?_cons_succ] at t0 t1;have CT:=take_any a zs cap c hbs (HH.o.ext (HX2.o.trans XS)) HZ.o;have HMP:=ZA ((MapAt.made w2).ext ((Upd.refl none' _).alloc (.cells (stRow (.map (some w2.heap.size)) (.slice none 0 0) ⟨[],[],0,0,0,false⟩) 45)));have HXS:=ZA (HX2.o.trans XS);have HSZ:=ZA HX2.o.size;clear u C hbx hbs hbt XS;simp only[stRow,Int.natCast_zero] at t0 t1 CT HMP HXS;go_wp2_with fail;refine CT.mono ?_;rintro e w3 ⟨rfl,tv,hb,hr,hg,u⟩;have HB3:=ZA hb;have HR3:=ZA hr;have HU3:=ZA u;have HGG:=ZA hg;clear hb hr hg u CT;go_wp2_with fail;go_ret2;have hs:=HSZ.o;refine ⟨w2.heap.size+1,w2.heap.size,tv,rfl,⟨HB3.o,HMP.o.upd HU3.o (fun e=> by have:w2.heap.size=w2.heap.size+1:=e;omega),HR3.o,HM.o⟩,by omega,hs,HXS.o.then HU3.o (fun k hk e=> by have:k=w2.heap.size+1:=e;omega),fun g hg=> Nat.le_trans HXS.o.size (HGG.o g hg)⟩
theorem new_ok(w:World)(a:Option Addr)(zs:List Int)(cap:Nat)(c:Int)(h:RdsAt w a zs)(hz:zs.length≤35184372088832)(hm:mayR zs=true):
 Calls Tryz.prog 7 #[.agg #[.slice a zs.length cap,.int .i64 c]] w fun e w'=> ∃b mb tv,e= .returned (.tuple #[.pointer (some ⟨b,0,none⟩),.nilIface])∧StAt w' b mb tv ⟨[],zs,c,0,0,false⟩∧w.heap.size≤b∧w.heap.size≤mb∧Ext w w':=
 (new_ok2 w a zs cap c h hz hm).mono fun _ _ ⟨b,mb,tv,h1,h2,h3,h4,h5,_⟩=> ⟨b,mb,tv,h1,h2,h3,h4,h5⟩
def StD.take(x:StD)(zs:List Int)(c:Int):StD:=⟨x.texts,zs,c,0,0,false⟩
theorem restart_ok{x:StD}(H:StAt w b mb tv x)(a:Option Addr)(zs:List Int)(cap:Nat)(c:Int)(h:RdsAt w a zs)(hz:zs.length≤35184372088832)(hm:mayR zs=true):
 Calls Tryz.prog 13 #[.pointer (some ⟨b,0,none⟩),.agg #[.slice a zs.length cap,.int .i64 c]] w fun e w'=> e= .returned .nilIface∧∃tv',StAt w' b mb tv' (x.take zs c)∧(∀g,tv'.ownBlock=some g→w.heap.size≤g)∧Upd (one b) w w':=by
 have X:=(Upd.refl none' w).alloc (.cells #[.slice a zs.length cap,.int .i64 c] 29);have hbx:=blk_alloc w (.cells #[.slice a zs.length cap,.int .i64 c] 29);have t0:=cell_of_blk hbx 0;have t1:=cell_of_blk hbx 1;simp only[List.getElem?_toArray,List.getElem?_cons_zero,List.getElem?_cons_succ] at t0 t1;have m0:=cell_of_blk (Ext.blk X H.blk) 0;simp only[stRow,List.getElem?_toArray,List.getElem?_cons_zero] at m0;have C:=may_any a zs cap c _ (h.ext X) (by omega);rw[hm] at C;have HX:=ZA X;have HH:=ZA h;have HM:=ZA hm;have HBX:=ZA hbx;have HZ:=ZA hz;have HS:=ZA H;clear X hbx h hm hz H;have hm0:=map_has mb;go_enter Tryz.func13,Tryz.ntmps13;go_wp2_with fail;refine C.mono ?_;rintro e w2 ⟨rfl,u⟩;have HX2:=ZA (HX.o.trans u);have hbt:=Ext.blk u HBX.o;have t0:=cell_of_blk hbt 0;have t1:=cell_of_blk hbt 1;simp only[List.getElem?_toArray,List.getElem?_cons_zero,List.getElem?_cons_succ] at t0 t1;have HS2:=ZA (HS.o.ext HX2.o);have CT:=take_any a zs cap c HS2.o.blk (HH.o.ext HX2.o) HZ.o;clear u C hbt m0;go_wp2_with fail;refine CT.mono ?_;rintro e w3 ⟨rfl,tv,hb,hr,hg,u⟩;have HB3:=ZA hb;have HR3:=ZA hr;have HU3:=ZA u;have HGG:=ZA hg;clear hb hr hg u CT;go_wp2_with fail;go_ret;exact ⟨rfl,tv,⟨HB3.o,HS2.o.tex.upd HU3.o (fun e=> HS2.o.ne (show mb=b from e).symm),HR3.o,HM.o⟩,fun g hg=> Nat.le_trans HX2.o.size (HGG.o g hg),(Upd.ext HX2.o (one b)).trans HU3.o⟩
theorem counts_any{x:StD}(H:StAt w b mb tv x):
 Calls Tryz.prog 23 #[.pointer (some ⟨b,0,none⟩)] w fun e w'=> e= .returned (.tuple #[.int .i64 x.nr,.int .i64 x.nw])∧Ext w w':=by
 have c3:=cell_of_blk H.blk 3;have c4:=cell_of_blk H.blk 4;simp only[stRow,List.getElem?_toArray,List.getElem?_cons_zero,List.getElem?_cons_succ] at c3 c4;clear H;go_enter Tryz.func23,Tryz.ntmps23;go_wp2_with fail;go_quiet (fail);go_wp2_with fail;go_ret2;exact ⟨rfl,(Upd.refl _ _).drewN _⟩
theorem dead_any{x:StD}(H:StAt w b mb tv x):
 Calls Tryz.prog 33 #[.pointer (some ⟨b,0,none⟩)] w fun e w'=> e= .returned (.bool x.dead)∧Ext w w':=by
 have c5:=cell_of_blk H.blk 5;simp only[stRow,List.getElem?_toArray,List.getElem?_cons_zero,List.getElem?_cons_succ] at c5;clear H;go_enter Tryz.func33,Tryz.ntmps33;go_wp2_with fail;go_ret;exact ⟨rfl,Upd.refl _ _⟩
def nameOk(s:ByteArray):Bool:=decide (1≤s.size∧s.size≤256)
def StD.refuse(x:StD)(s:ByteArray):EV:=if nameOk s then (if x.dead then some (8,none) else none) else some (2,none)
theorem isEmpty_size(s:ByteArray):s.toList.isEmpty=decide (s.size=0):=by
 have h:s.toList.length=s.size:=by rw[ByteArray.toList_eq];rfl
 cases hs:s.toList with
 | nil=> rw[hs] at h;simp[←h]
 | cons a l=> rw[hs] at h;simp[←h]
theorem refused_any{x:StD}(G:Genv B se w)(H:StAt w b mb tv x)(s:ByteArray):
 Calls Tryz.prog 50 #[.pointer (some ⟨b,0,none⟩),.string s] w fun e w'=> e= .returned (evS se (x.refuse s))∧w=w':=by
 have m0:=cell_of_blk H.blk 0;have m5:=cell_of_blk H.blk 5;simp only[stRow,List.getElem?_toArray,List.getElem?_cons_zero,List.getElem?_cons_succ] at m0 m5;have g2:w.cell? ⟨0,0,none⟩=some (sv se 2):=G.cell 2 (by omega) (by omega);have g8:w.cell? ⟨2,0,none⟩=some (sv se 8):=G.cell 8 (by omega) (by omega);have hm0:=map_has mb;have he:=isEmpty_size s;clear G H;by_cases h0:s.size=0
 ·have HR:=ZA (show x.refuse s=some (2,none) by unfold StD.refuse nameOk;simp[h0]);rw[decide_eq_true h0] at he;go_enter Tryz.func50,Tryz.ntmps50;go_wp2_with fail;go_ret;exact ⟨by rw[HR.o];rfl,rfl⟩
 ·rw[decide_eq_false h0] at he;by_cases h1:256 < s.size
  ·have HR:=ZA (show x.refuse s=some (2,none) by unfold StD.refuse nameOk;simp[show¬s.size≤256 by omega]);have d1:(256:Int) < s.size:=by omega
   clear h0 h1;go_enter Tryz.func50,Tryz.ntmps50;go_wp2_with fail;go_ret;exact ⟨by rw[HR.o];rfl,rfl⟩
  ·have d1:¬(256:Int) < s.size:=by omega
   have HN:=ZA (show nameOk s=true by unfold nameOk;exact decide_eq_true ⟨by omega,by omega⟩);clear h0 h1;cases hd:x.dead with
   | true=>
    have HR:=ZA (show x.refuse s=some (8,none) by unfold StD.refuse;rw[HN.o,hd];rfl);rw[hd] at m5;clear hd;go_enter Tryz.func50,Tryz.ntmps50;go_wp2_with fail;go_ret;exact ⟨by rw[HR.o];rfl,rfl⟩
   | false=>
    have HR:=ZA (show x.refuse s=none by unfold StD.refuse;rw[HN.o,hd];rfl);rw[hd] at m5;clear hd;go_enter Tryz.func50,Tryz.ntmps50;go_wp2_with fail;go_ret;exact ⟨by rw[HR.o];rfl,rfl⟩
def StD.put(x:StD)(s t:ByteArray):StD×EV:=
 match x.refuse s with
 | some e=> (x,some e)
 | none=>
  if x.crash=(x.nw:Int)+1 then ({x with nw:=x.nw+1,dead:=true},some (8,none))
  else if x.crash= -((x.nw:Int)+1) then ({x with nw:=x.nw+1,texts:=putL x.texts s t,dead:=true},some (8,none))
  else ({x with nw:=x.nw+1,texts:=putL x.texts s t},none)
theorem refuse_some(x:StD)(s:ByteArray)(e:Nat×Option Int)(h:x.refuse s=some e):1≤e.1∧e.1≤16∧e.2=none:=by
 unfold StD.refuse at h;split at h
 ·split at h
  ·obtain rfl:=Option.some.inj h;exact ⟨by decide,by decide,rfl⟩
  ·cases h
 ·obtain rfl:=Option.some.inj h;exact ⟨by decide,by decide,rfl⟩
def PutPost(se:Nat→Addr)(b mb:Nat)(tv:Value)(w:World)(r:StD×EV)(e:Ending)(w':World):Prop:=
 e= .returned (evS se r.2)∧StAt w' b mb tv r.1∧Upd (two b mb) w w'
theorem put_any{x:StD}(G:Genv B se w)(H:StAt w b mb tv x)(hB:B≤b)(hM:B≤mb)(s t:ByteArray)(hs:s.size≤maxLen)(ht:t.size≤maxLen)(hn:x.nw < 4611686018427387904)(hL:x.texts.length < 4611686018427387904):
 Calls Tryz.prog 12 #[.pointer (some ⟨b,0,none⟩),.string s,.string t] w (PutPost se b mb tv w (x.put s t)):=by
 have C:=refused_any G H s;have HH:=ZA H;have HG:=ZA G;have HS:=ZA hs;have HT:=ZA ht;have HL:=ZA (show x.texts.length < maxLen by unfold maxLen;omega);have HGB:=ZA (show B≤b∧B≤mb from ⟨hB,hM⟩);cases hr:x.refuse s with
 | some e=>
  obtain ⟨k,p⟩:=e;obtain ⟨h1,h2,rfl⟩:=refuse_some x s _ hr;have HP:=ZA (show x.put s t=(x,some (k,none)) by unfold StD.put;rw[hr]);rw[hr] at C;simp only[evS] at C;clear H G hr hs ht hL hB hM h1 h2;go_enter Tryz.func12,Tryz.ntmps12;go_wp2_with fail;refine C.mono ?_;rintro e w2 ⟨rfl,rfl⟩;go_wp2_with fail;go_ret;rw[HP.o];exact ⟨rfl,HH.o,Upd.refl _ _⟩
 | none=>
  rw[hr] at C;simp only[evS] at C;have m0:=cell_of_blk H.blk 0;have m2:=cell_of_blk H.blk 2;have m4:=cell_of_blk H.blk 4;have m5:=cell_of_blk H.blk 5;have f4:=free_of_blk H.blk 4;have f5:=free_of_blk H.blk 5;simp only[stRow,List.getElem?_toArray,List.getElem?_cons_zero,List.getElem?_cons_succ] at m0 m2 m4 m5;have hw:IntKind.i64.wrap ((x.nw:Int)+1)=(x.nw:Int)+1:=IntWalk.i64_in _ (by omega);have hw2:IntKind.i64.wrap (-((x.nw:Int)+1))= -((x.nw:Int)+1):=IntWalk.i64_in _ (by omega);have g8:w.cell? ⟨2,0,none⟩=some (sv se 8):=G.cell 8 (by omega) (by omega);have HRF:=ZA hr;clear H G hr hs ht hL hB hM;by_cases hc:x.crash=(x.nw:Int)+1
  ·have HP:=ZA (show x.put s t=({x with nw:=x.nw+1,dead:=true},some (8,none)) by unfold StD.put;rw[HRF.o];simp only;rw[if_pos hc]);have hcb:(x.crash==(x.nw:Int)+1)=true:=by simp[hc]
   clear hc;go_enter Tryz.func12,Tryz.ntmps12;go_wp2_with fail;refine C.mono ?_;rintro e w2 ⟨rfl,rfl⟩;go_wp2_with fail;go_quiet (fail);go_wp2_with fail;go_ret;rw[HP.o];have U:=fun k=> (((Upd.refl (one b) w).setCell (p:=⟨b,4,none⟩) (.inr rfl) (.int .i64 ((x.nw:Int)+1))).drewN k).setCell (p:=⟨b,5,none⟩) (.inr rfl) (.bool true);have b1:=fun k=> blk_set (w:=(w.setCell ⟨b,4,none⟩ (.int .i64 ((x.nw:Int)+1))).drewN k) (blk_set HH.o.blk 4 (.int .i64 ((x.nw:Int)+1))) 5 (.bool true);exact ⟨rfl,⟨b1 _,HH.o.tex.upd (U _) (fun e=> HH.o.ne (show mb=b from e).symm),rows_upd HH.o.row (U _) (fun g hg e=> HH.o.tvb (by rw[hg];exact congrArg some (show g=b from e))),HH.o.rise⟩,(U _).mono (fun k _ e=> .inl e)⟩
  ·have hcb:(x.crash==(x.nw:Int)+1)=false:=by simp[hc]
   have U1:=fun k=> ((Upd.refl (one b) w).setCell (p:=⟨b,4,none⟩) (.inr rfl) (.int .i64 ((x.nw:Int)+1))).drewN k;have HB1:=ZA (fun k=> show ((w.setCell ⟨b,4,none⟩ (.int .i64 ((x.nw:Int)+1))).drewN k).heap[b]? =some (.cells (stRow (.map (some mb)) tv {x with nw:=x.nw+1}) 45 (0,0)) from blk_set HH.o.blk 4 (.int .i64 ((x.nw:Int)+1)));have HM1:=ZA (fun k=> HH.o.tex.upd (U1 k) (fun e=> HH.o.ne (show mb=b from e).symm));have HU1:=ZA U1;clear U1;go_enter Tryz.func12,Tryz.ntmps12;go_wp2_with fail;refine C.mono ?_;rintro e w2 ⟨rfl,rfl⟩;go_wp2_with fail;go_quiet (fail);go_wp2_with (at_mapUpdate;refine wpList_putT _ rfl _ _ _ rfl mb x.texts rfl (HM1.o _) HL.o s t HS.o HT.o rfl rfl ?_);intro w3 hm3 u3;have hb3:=u3.blk (HB1.o _) (fun e=> HH.o.ne (show b=mb from e));have U3:Upd (two b mb) w w3:=((HU1.o _).mono (fun k _ e=> .inl e)).then u3 (fun k _ e=> .inr e);have m2:w3.cell? ⟨b,2,none⟩=some (.int .i64 x.crash):=cell_of_blk hb3 2;have m4:w3.cell? ⟨b,4,none⟩=some (.int .i64 ((x.nw:Int)+1)):=cell_of_blk hb3 4;have m5:w3.cell? ⟨b,5,none⟩=some (.bool x.dead):=cell_of_blk hb3 5;have f5:=free_of_blk hb3 5;have G3:=HG.o.below (U3.below HG.o.size (fun k e=> e.elim (fun h=> h▸HGB.o.1) (fun h=> h▸HGB.o.2)));have g8:w3.cell? ⟨2,0,none⟩=some (sv se 8):=G3.cell 8 (by omega) (by omega);have HB3:=ZA hb3;have HM3:=ZA hm3;have HU3:=ZA U3;have HR3:=ZA (rows_upd HH.o.row U3 (fun g hg e=> e.elim (fun h=> HH.o.tvb (by rw[hg];exact congrArg some h)) (fun h=> HH.o.tvm (by rw[hg];exact congrArg some h))));clear hb3 U3 G3 hm3 u3 HB1 HM1 HU1;by_cases hc2:x.crash= -((x.nw:Int)+1)
   ·have HP:=ZA (show x.put s t=({x with nw:=x.nw+1,texts:=putL x.texts s t,dead:=true},some (8,none)) by unfold StD.put;rw[HRF.o];simp only;rw[if_neg hc,if_pos hc2]);have hcb2:(x.crash== -((x.nw:Int)+1))=true:=by simp[hc2]
    have HN2:=ZA HH.o.ne;clear hc hc2 hcb;go_wp2_with fail;go_quiet (fail);go_wp2_with fail;go_ret;rw[HP.o];have U:=fun k=> ((Upd.refl (one b) w3).drewN k).setCell (p:=⟨b,5,none⟩) (.inr rfl) (.bool true);have b1:=fun k=> blk_set (w:=w3.drewN k) HB3.o 5 (.bool true);exact ⟨rfl,⟨b1 _,HM3.o.upd (U _) (fun e=> HN2.o (show mb=b from e).symm),rows_upd HR3.o (U _) (fun g hg e=> HH.o.tvb (by rw[hg];exact congrArg some (show g=b from e))),HH.o.rise⟩,HU3.o.trans ((U _).mono (fun k _ e=> .inl e))⟩
   ·have HP:=ZA (show x.put s t=({x with nw:=x.nw+1,texts:=putL x.texts s t},none) by unfold StD.put;rw[HRF.o];simp only;rw[if_neg hc,if_neg hc2]);have hcb2:(x.crash== -((x.nw:Int)+1))=false:=by simp[hc2]
    clear hc hc2 hcb;go_wp2_with fail;go_quiet (fail);go_wp2_with fail;go_ret;rw[HP.o];exact ⟨rfl,StAt.ext (⟨HB3.o,HM3.o,HR3.o,HH.o.rise⟩:StAt w3 b mb tv {x with nw:=x.nw+1,texts:=putL x.texts s t}) ((Upd.refl none' w3).drewN _),HU3.o.drewN _⟩
theorem getD_at(h:i < zs.length):zs.getD i 0=zs[i]:=by simp[List.getD,List.getElem?_eq_getElem h]
theorem mayFrom_sorted:∀(l:Int) (zs:List Int),mayFrom l zs=true→(∀z∈zs,l < z)∧zs.Pairwise (· < ·)
 | _,[],_=> ⟨fun z h=> by (cases h),List.Pairwise.nil⟩
 | l,n::r,h=> by
  unfold mayFrom at h;split at h
  ·cases h
  ·rename_i hn;obtain ⟨h1,h2⟩:=mayFrom_sorted n r h;refine ⟨fun z hz=> ?_,List.Pairwise.cons (fun z hz=> h1 z hz) h2⟩;rcases List.mem_cons.1 hz with rfl | hz
   ·omega
   ·have:=h1 z hz;omega
theorem sorted_lt(h:zs.Pairwise (· < ·)){a:Nat}(hab:a < b)(hb:b < zs.length):zs.getD a 0 < zs.getD b 0:=by have:=List.pairwise_iff_getElem.1 h a b (by omega) hb hab;rw[getD_at (show a < zs.length by omega),getD_at hb];exact this
theorem search_bound(p:Nat→Bool):∀(n:Nat),(∀a b,a≤b→b < n→p a=true→p b=true)→∃c,c≤n∧(∀t,t < c→p t=false)∧∀t,c≤t→t < n→p t=true
 | 0,_=> ⟨0,Nat.le_refl _,fun t h=> by omega,fun t h1 h2=> by omega⟩
 | n+1,hm=> by
  cases hp:p n with
  | false=>
   refine ⟨n+1,Nat.le_refl _,fun t ht=> ?_,fun t h1 h2=> by omega⟩;cases hq:p t with
   | false=> rfl
   | true=> have:=hm t n (by omega) (by omega) hq;rw[hp] at this;cases this
  | true=>
   obtain ⟨c,h1,h2,h3⟩:=search_bound p n (fun a b hab hb=> hm a b hab (by omega));refine ⟨c,by omega,h2,fun t ht1 ht2=> ?_⟩;by_cases e:t=n
   ·rw[e,hp]
   ·exact h3 t ht1 (by omega)
def placeOfRead(zs:List Int)(r:Int):Nat:=(List.range zs.length).countP (fun i=> !decide (r≤zs.getD i 0))
theorem place_mono(h:mayR zs=true)(r:Int):∀a b,a≤b→b < zs.length→decide (r≤zs.getD a 0)=true→decide (r≤zs.getD b 0)=true:=fun a b hab hb ha=> by
 have ha:=of_decide_eq_true ha;refine decide_eq_true ?_;by_cases e:a=b
 ·subst e;exact ha
 ·have:=sorted_lt (mayFrom_sorted 0 zs h).2 (show a < b by omega) hb;omega
theorem place_spec(h:mayR zs=true)(r:Int):placeOfRead zs r≤zs.length∧((placeOfRead zs r < zs.length∧zs.getD (placeOfRead zs r) 0=r)↔r∈zs):=by
 obtain ⟨c,h1,h2,h3⟩:=search_bound (fun i=> decide (r≤zs.getD i 0)) zs.length (place_mono h r);have hr:∀t,t < zs.length→(List.range zs.length)[t]! =t:=fun t ht=> by rw[getElem!_pos _ t (by simpa using ht)];simp
 have e:placeOfRead zs r=c:=Lib.countP_boundary _ (List.range zs.length) c (by simpa using h1) (fun t ht=> by rw[hr t (by omega),h2 t ht];rfl) (fun t h4 h5=> by rw[hr t (by simpa using h5),h3 t h4 (by simpa using h5)];rfl);rw[e];refine ⟨h1,fun ⟨a,b⟩=> ?_,fun hm=> ?_⟩
 ·rw[←b,getD_at a];exact List.getElem_mem a
 ·obtain ⟨i,hi,hx⟩:=List.getElem_of_mem hm;have hg:zs.getD i 0=r:=by rw[getD_at hi];exact hx
  have hci:c≤i:=by refine Nat.le_of_not_lt fun hlt=> ?_;have:=h2 i hlt;simp only[decide_eq_false_iff_not] at this;omega
  have hcl:c < zs.length:=by omega
  refine ⟨hcl,?_⟩;by_cases e2:c=i
  ·rw[e2];exact hg
  ·have h4:=of_decide_eq_true (h3 c (Nat.le_refl _) hcl);have h5:=sorted_lt (mayFrom_sorted 0 zs h).2 (show c < i by omega) hi;omega
theorem rds_of_row(h:w.ownsRow 0 3 1 tv zs.length (zs.map (Value.int .i64))):∃ta cap,tv= .slice ta zs.length cap∧RdsAt w ta zs:=by
 have hc:=fun (g:Nat)=> h.cells (g:=g);rcases h.2 with ⟨rfl,h0⟩ | ⟨g,cap,cur,rfl,_,hg,_⟩
 ·refine ⟨none,0,by rw[h0],fun i x hx=> ?_⟩;rw[List.length_eq_zero_iff.1 h0] at hx;cases hx
 ·refine ⟨_,cap,rfl,fun i x hx=> ⟨g,0,rfl,?_⟩⟩;have hi:i < zs.length:=(List.getElem?_eq_some_iff.1 hx).1;have:=hc g rfl i (.int .i64 x) (by rw[List.getElem?_map,hx];rfl);have ea:(⟨g,0,none⟩:Addr).add i=⟨g,0+i,none⟩:=by unfold Addr.add;split <;> simp_all
  rw[ea] at this;exact this
theorem enters_get1:∀args w,(callFunc 140 args).run Tryz.prog w= .ok (.enter 140 args) w:=enters_of Tryz.func140 (by kernel_rfl) rfl
theorem get1_any{W:World}{n0 n1 off cap:Nat}{r y:Int}(hl:W.cell? ⟨n1,0,none⟩=some (.slice (some ⟨g,off,none⟩) n cap))(hs:W.cell? ⟨n0,0,none⟩=some (.pointer (some ⟨b,0,none⟩)))(hr:W.cell? ⟨b,3,none⟩=some (.int .i64 r))
 (hc:W.cell? ⟨g,off+i,none⟩=some (.int .i64 y)) (hi:i < n):
 Calls Tryz.prog 140 #[.int .i64 i,.pointer (some ⟨n1,0,none⟩),.pointer (some ⟨n0,0,none⟩)] W fun e w'=> e= .returned (.bool (decide (r≤y)))∧∃q,w'=W.drewN q:=by
 have hii:(i:Int) < n:=by omega
 go_enter Tryz.func140,Tryz.ntmps140;go_wp2_with fail;go_quiet (fail);go_wp2_with fail;go_ret;exact ⟨by simp,_,rfl⟩
end Go.Proofs.YtjnjpgdoncbahaaGreatDoor
