/- The statements' Code, At, Is, IsAt, Same of an error: by contracts. codec.Writer: its calls by contracts. A writer's footprint S: the blocks that it may write. Rows of the call's own: plain lemmas on memory. Structs and arrays stored whole; hashes by value. Rows of hashes: plain lemmas on memory. codec.Writer: Var, Text, Hash, Fixed, Done by contracts. Bytes: append of a string onto a row of the call's own; a row's bytes as a string. clear of a part of an own row. Nothing of the program. strings.Builder: copyCheck, WriteByte, WriteString, Write by contracts (the library's contracts, turned to this program's bodies). The statements' marks as texts: word, markText, isText by contracts. A row whose block bears a mark behind its end (what '[]byte(s)' gives): append of one element. Nothing of the program. The references' faults as values. -/
import Derived.Test.YtjnjpgdoncbahaaGreatDoorErr
import Derived.Test.YtjnjpgdoncbahaaGreatDoorApp
import Derived.Test.YtjnjpgdoncbahaaGreatDoorAgg
import Derived.Test.YtjnjpgdoncbahaaGreatDoorTree
import Derived.Lib.AppendStr
import Derived.Shelf.Strings.Builder1
import Derived.Test.YtjnjpgdoncbahaaGreatDoorShelf
import Derived.Lib.ItoaMem
import Derived.Lib.ItoaLen
namespace Go.Proofs.YtjnjpgdoncbahaaGreatDoor
open Go.RowKit Go.Lib
set_option maxRecDepth 100000
set_option maxHeartbeats 2000000
variable {A:Option Addr}{B b c e g k m n size:Nat}{a:Act}{cs xs:List Value}{f:Nat×Nat}{l:List HB}{o:Oper}{ops:Array Oper}{p:Option Int}{rest:List Oper}{se:Nat→Addr}{t:TypeId}{v:Value}
def gno:Nat→Nat
 | 1=> 3 | 2=> 0 | 3=> 7 | 4=> 4 | 5=> 8 | 6=> 6 | 7=> 5 | 8=> 2
 | 9=> 1 | 10=> 9 | 11=> 10 | 12=> 11 | 13=> 12 | 14=> 13 | 15=> 14 | _=> 15
abbrev sv(se:Nat→Addr)(k:Nat):Value:= .iface 457 (.pointer (some (se k)))
structure Genv (B:Nat) (se:Nat→Addr) (w:World):Prop where
 cell:∀k,1≤k→k≤16→w.cell? ⟨gno k,0,none⟩=some (sv se k)
 row:∀k,1≤k→k≤16→∃c t,w.heap[(se k).block]? =some (.cells c t (0,0))
 inj:∀i j,1≤i→i≤16→1≤j→j≤16→i≠j→se i≠se j
 et:w.cell? ⟨16,0,none⟩=some (.iface 388 (.agg #[.pointer (some ⟨25,24,none⟩)]))
 low:∀k,1≤k→k≤16→gno k < B∧(se k).block < B
 lowt:16 < B
 size:B≤w.heap.size
theorem Genv.below{w w':World}(h:Genv B se w)(k:Below B w w'):Genv B se w' where
 cell i h1 h2:=(k.cell (p:=⟨gno i,0,none⟩) (h.low i h1 h2).1).trans (h.cell i h1 h2)
 row i h1 h2:=by obtain ⟨c,t,hr⟩:=h.row i h1 h2;exact ⟨c,t,(k.block _ (h.low i h1 h2).2).trans hr⟩
 inj:=h.inj
 et:=(k.cell (p:=⟨16,0,none⟩) h.lowt).trans h.et
 low:=h.low
 lowt:=h.lowt
 size:=Nat.le_trans h.size k.size
theorem Genv.ext{w w':World}(h:Genv B se w)(k:Ext w w'):Genv B se w':=h.below (Ext.below k h.size)
abbrev EV:=Option (Nat×Option Int)
def ErrIs(se:Nat→Addr)(w:World)(v:Value):EV→Prop
 | none=> v= .nilIface
 | some (k,none)=> 1≤k∧k≤16∧v=sv se k
 | some (k,some n)=> 1≤k∧k≤16∧∃b,v= .iface 201 (.pointer (some ⟨b,0,none⟩))∧w.heap[b]? =some (.cells #[sv se k,.int .i64 n] 205 (0,0))
theorem ErrIs.ext{w w':World}{x:EV}(h:ErrIs se w v x)(k:Ext w w'):ErrIs se w' v x:=by
 match x,h with
 | none,h=> exact h
 | some (_,none),h=> exact h
 | some (_,some _),⟨h1,h2,b,h3,h4⟩=> exact ⟨h1,h2,b,h3,Ext.blk k h4⟩
def codeOf:EV→Int
 | none=> 0
 | some (k,_)=> k
def placeOf:EV→Int
 | some (_,some n)=> n
 | _=> 0
def placed:EV→Bool
 | some (_,some _)=> true
 | _=> false
theorem is_any{w:World}(G:Genv B se w)(hv:ErrIs se w v (some (k,p)))(j:Nat)(h1:1≤j)(h2:j≤16):
 Calls Tryz.prog 144 #[v,sv se j] w fun e w'=> e= .returned (.bool (decide (k=j)))∧w=w':=by
 match p,hv with
 | none,⟨k1,k2,e⟩=>
  subst e;by_cases hkj:k=j
  ·subst hkj;simpa using is_same (se k) w
  ·obtain ⟨c,t,hr⟩:=G.row k k1 k2;obtain ⟨c',t',hr'⟩:=G.row j h1 h2;simpa[hkj] using is_other (se k) (se j) c c' t t' w (G.inj k j k1 k2 h1 h2 hkj) hr hr'
 | some n,⟨k1,k2,b,e,hb⟩=>
  subst e;have h0:w.cell? ⟨b,0,none⟩=some (sv se k):=cell_of_blk hb 0;by_cases hkj:k=j
  ·subst hkj;simpa using is_fault_same b (se k) w h0
  ·obtain ⟨c,t,hr⟩:=G.row k k1 k2;obtain ⟨c',t',hr'⟩:=G.row j h1 h2;simpa[hkj] using is_fault_other b (se k) (se j) c c' t t' w h0 (G.inj k j k1 k2 h1 h2 hkj) hr hr'
theorem code_nil(w:World):Calls Tryz.prog 52 #[.nilIface] w fun e w'=> e= .returned (.int .i64 0)∧Ext w w':=by go_enter Tryz.func52,Tryz.ntmps52;go_wp2;go_ret;exact ⟨rfl,Upd.refl _ _⟩
abbrev sents(se:Nat→Addr):Array Value:=#[sv se 1,sv se 2,sv se 3,sv se 4,sv se 5,sv se 6,sv se 7,sv se 8,sv se 9,sv se 10,sv se 11,sv se 12,sv se 13,sv se 14,sv se 15,sv se 16]
theorem sents_at(se:Nat→Addr)(i:Nat)(h:i < 16):(sents se)[i]? =some (sv se (i+1)):=by
 match i,h with
 | 0,_ | 1,_ | 2,_ | 3,_ | 4,_ | 5,_ | 6,_ | 7,_ | 8,_ | 9,_ | 10,_ | 11,_ | 12,_ | 13,_ | 14,_ | 15,_=> rfl
 | n+16,h=> exact absurd h (by omega)
def nAt(c k:Nat):Int:=if c≤k then c else -1
theorem code_some{w:World}(G:Genv B se w){t:Nat}{x:Value}(hv:ErrIs se w (.iface t x) (some (k,p))):
 Calls Tryz.prog 52 #[.iface t x] w fun e w'=> e= .returned (.int .i64 k)∧Ext w w':=by
 have c1:=G.cell 1 (by decide) (by decide);have c2:=G.cell 2 (by decide) (by decide);have c3:=G.cell 3 (by decide) (by decide);have c4:=G.cell 4 (by decide) (by decide);have c5:=G.cell 5 (by decide) (by decide);have c6:=G.cell 6 (by decide) (by decide);have c7:=G.cell 7 (by decide) (by decide);have c8:=G.cell 8 (by decide) (by decide);have c9:=G.cell 9 (by decide) (by decide);have c10:=G.cell 10 (by decide) (by decide);have c11:=G.cell 11 (by decide) (by decide);have c12:=G.cell 12 (by decide) (by decide);have c13:=G.cell 13 (by decide) (by decide);have c14:=G.cell 14 (by decide) (by decide);have c15:=G.cell 15 (by decide) (by decide);have c16:=G.cell 16 (by decide) (by decide);simp only[gno] at c1 c2 c3 c4 c5 c6 c7 c8 c9 c10 c11 c12 c13 c14 c15 c16;have hk:1≤k∧k≤16:=by match p,hv with | none,h=> exact ⟨h.1,h.2.1⟩ | some _,h=> exact ⟨h.1,h.2.1⟩
 obtain ⟨hk1,hk2⟩:=hk;have HV:=ZA hv;have HG:=ZA G;clear hv G;go_enter Tryz.func52,Tryz.ntmps52;go_wp2;clear c1 c2 c3 c4 c5 c6 c7 c8 c9 c10 c11 c12 c13 c14 c15 c16;go_loop [4,5] (fun n i=> ∃j:Nat,j≤16∧i= .int .i64 j∧n= .int .i64 (nAt k j)) (fun _ i=> 16 - (intOf i).toNat);case atStart=> exact ⟨0,by omega,rfl,by simp[nAt];omega⟩
 case round=>
  obtain ⟨j,hj,rfl,rfl⟩:=hrel;by_cases hlt:j < 16
  ·have hc:((w.alloc (.cells (sents se) 206))).cell? ⟨w.heap.size,j,none⟩=some (sv se (j+1)):=by rw[cell_of_blk (blk_alloc w _)];exact sents_at se j hlt
   have X:=(Upd.refl none' w).alloc (.cells (sents se) 206);have C:=is_any (HG.o.ext X) (HV.o.ext X) (j+1) (by omega) (by omega);clear X;by_cases hkj:k=j+1
   ·subst hkj;have hn:nAt (j+1) j= -1:=if_neg (by omega);go_wp2_with (go_at_call 144;refine C.mono ?_;rintro e w' ⟨rfl,rfl⟩);go_round;case rel=> exact ⟨j+1,by omega,by go_num,by simp[nAt]⟩
    case measure=> simp[intOf];omega
   ·go_wp2_with (go_at_call 144;refine C.mono ?_;rintro e w' ⟨rfl,rfl⟩);go_round;case rel=> exact ⟨j+1,by omega,by go_num,by congr 1;unfold nAt;split <;> split <;> first | rfl | omega⟩
    case measure=> simp[intOf];omega
  ·obtain rfl:j=16:=by omega
   go_wp2;go_ret;exact ⟨by simp[nAt,hk2],(Upd.refl _ _).alloc _⟩
theorem code_any{w:World}(G:Genv B se w){x:EV}(hv:ErrIs se w v x):
 Calls Tryz.prog 52 #[v] w fun e w'=> e= .returned (.int .i64 (codeOf x))∧Ext w w':=by
 match x,hv with
 | none,h=> cases h;exact code_nil w
 | some (k,none),h=> obtain ⟨h1,h2,e⟩:=h;subst e;exact code_some G (p:=none) ⟨h1,h2,rfl⟩
 | some (k,some n),h=> obtain ⟨h1,h2,b,e,hb⟩:=h;subst e;exact code_some G (p:=some n) ⟨h1,h2,b,rfl,hb⟩
theorem at_any{w:World}(G:Genv B se w){x:EV}(hv:ErrIs se w v x):
 Calls Tryz.prog 51 #[v] w fun e w'=> e= .returned (.tuple #[.int .i64 (placeOf x),.bool (placed x)])∧Ext w w':=by
 match x,hv with
 | none,h=>
  cases h
  go_enter Tryz.func51,Tryz.ntmps51;go_wp2_with (go_at_call 151;refine (as_nil _ _).mono ?_;rintro e w' ⟨rfl,rfl⟩);go_ret2;exact ⟨rfl,(Upd.refl _ _).alloc _⟩
 | some (k,none),h=>
  obtain ⟨h1,h2,e⟩:=h;subst e;have X:=(Upd.refl none' w).alloc (.cells #[.pointer none] 201);have C:=as_miss (se k) ⟨w.heap.size,0,none⟩ (.pointer none) (w.alloc (.cells #[.pointer none] 201)) (G.ext X).et (by simp);clear X G;go_enter Tryz.func51,Tryz.ntmps51;go_wp2_with (go_at_call 151;refine C.mono ?_;rintro e w' ⟨rfl,hX⟩);go_ret2;exact ⟨rfl,((Upd.refl _ _).alloc _).trans (hX.mono (fun _ _ h=> h))⟩
 | some (k,some n),h=>
  obtain ⟨h1,h2,b,e,hb⟩:=h;subst e;have hlt:=lt_of_blk hb;have X:=(Upd.refl none' w).alloc (.cells #[.pointer none] 201);have C:Calls Tryz.prog 151 #[.iface 201 (.pointer (some ⟨b,0,none⟩)),.iface 203 (.pointer (some ⟨w.heap.size,0,none⟩))] (w.alloc (.cells #[.pointer none] 201)) fun ev w'=> ev= .returned (.bool true)∧
   (w'.cell? ⟨w.heap.size,0,none⟩=some (.pointer (some ⟨b,0,none⟩))∧w'.cell? ⟨b,1,none⟩=some (.int .i64 n))∧Ext w w':=by
   refine (as_hit ⟨b,0,none⟩ ⟨w.heap.size,0,none⟩ (.pointer none) (w.alloc (.cells #[.pointer none] 201)) (G.ext X).et (by simp) (by simp)).mono ?_;rintro e w' ⟨rfl,rfl⟩;have Y:=(((X.alloc (.cells #[.pointer (some ⟨w.heap.size,0,none⟩)] 203)).alloc (.cells #[.pointer (some ⟨25,203,none⟩),.pointer (some ⟨(w.alloc (.cells #[.pointer none] 201)).heap.size,0,none⟩),.int .u64 150] 348)).alloc (.cells #[.pointer (some ⟨25,203,none⟩),.pointer (some ⟨(w.alloc (.cells #[.pointer none] 201)).heap.size,0,none⟩),.int .u64 150] 348)).alloc (.cells #[.pointer (some ⟨b,0,none⟩)] 201);have Z:=Y.setCell (p:=⟨w.heap.size,0,none⟩) (.inl (Nat.le_refl _)) (.pointer (some ⟨b,0,none⟩));refine ⟨rfl,⟨?_,?_⟩,Z⟩
   ·rw[cell_of_blk (blk_set (blk_alloc_lt (blk_alloc_lt (blk_alloc_lt (blk_alloc_lt (blk_alloc w (.cells #[.pointer none] 201)) _) _) _) _) 0 _)];rfl
   ·rw[cell_of_blk (Ext.blk Z hb)];rfl
  clear X G hb hv;go_enter Tryz.func51,Tryz.ntmps51;go_wp2_with (go_at_call 151;refine C.mono ?_;rintro e w' ⟨rfl,⟨hc0,hc1⟩,hX⟩);go_ret2;exact ⟨rfl,hX⟩
theorem is0_any{w:World}(G:Genv B se w){x:EV}(hv:ErrIs se w v x)(c:Int):
 Calls Tryz.prog 14 #[v,.int .i64 c] w fun e w'=> e= .returned (.bool (codeOf x==c && (!placed x || placeOf x==0)))∧Ext w w':=by
 have C1:=at_any G hv;have C2:∀w1,Ext w w1→_:=fun w1 (h:Ext w w1)=> code_any (G.ext h) (hv.ext h);have H2:=ZA C2;clear C2 G hv;generalize hp:placed x=p at*;generalize hq:placeOf x=q at*;generalize hr:codeOf x=r at*;clear hp hq hr;cases h1:(r==c) <;> cases p <;> cases h2:(q==0)
 all_goals
  go_enter Tryz.func14,Tryz.ntmps14;go_wp2_with (first | (go_at_call 51;refine C1.mono ?_;rintro e w1 ⟨rfl,hX1⟩) | (go_at_call 52;refine (H2.o _ (by assumption)).mono ?_;rintro e w2 ⟨rfl,hX2⟩));go_ret;exact ⟨by simp,Upd.trans (by assumption) (Upd.mono (by assumption) (fun _ _ h=> h))⟩
abbrev u8v(c:UInt8):Value:= .int .u8 (c.toNat:Int)
theorem info_u8:(Tryz.prog.info? 5).map (fun i=> (i.zero,i.size,i.bytes))=some (some (.int .u8 0),1,1):=by kernel_rfl
theorem ownsRow_upd{w w':World}{T:Nat→Prop}(h:w.ownsRow B e size v n xs)(k:Upd T w w')(hT:∀g,v.ownBlock=some g→¬T g):w'.ownsRow B e size v n xs:=by
 refine ⟨h.1,?_⟩;rcases h.2 with hn | ⟨g,cap,cur,rfl,hb,hgg,rest⟩
 ·exact .inl hn
 ·exact .inr ⟨g,cap,cur,rfl,hb,k.blk hgg (hT g rfl),rest⟩
theorem own_form{w:World}(h:w.ownsRow B e size v n xs):(v= .slice none 0 0∧n=0)∨∃g cap,v= .slice (some ⟨g,0,none⟩) n cap∧B≤g:=by
 rcases h.2 with h | ⟨g,cap,cur,h1,h2,_⟩
 ·exact .inl h
 ·exact .inr ⟨g,cap,h1,h2⟩
theorem rowT{w:World}(h:w.ownsRow B e size v n xs)(hg:v.ownBlock=some g):∃c,w.heap[g]? =some (.cells c e (0,0)):=by
 rcases h.2 with ⟨rfl,_⟩ | ⟨g',cap,cur,rfl,_,hb,_⟩
 ·cases hg
 ·obtain rfl:g'=g:=by simpa[Value.ownBlock] using hg
  exact ⟨_,hb⟩
theorem tyNe{w:World}{cs cs':Array Value}{t':TypeId}{f':Nat×Nat}(h:w.heap[b]? =some (.cells cs t f))(h':w.heap[c]? =some (.cells cs' t' f'))(ht:t≠t'):b≠c:=fun e=> by rw[e,h'] at h;simp only[Option.some.injEq,Obj.cells.injEq] at h;exact ht h.2.1.symm
theorem rowNe{w:World}{cs:Array Value}(h:w.ownsRow B e size v n xs)(hb:w.heap[b]? =some (.cells cs t f))(ht:e≠t):∀g,v.ownBlock=some g→g≠b:=fun g hg=> by obtain ⟨c,hc⟩:=rowT h hg;exact tyNe hc hb ht
theorem ownLow{w:World}{B':Nat}{e:TypeId}(h:w.ownsRow B e size v n xs)(hB:B'≤B):w.ownsRow B' e size v n xs:=by
 refine ⟨h.1,?_⟩;rcases h.2 with h0 | ⟨g,cap,cur,hv,hb,rest⟩
 ·exact .inl h0
 ·exact .inr ⟨g,cap,cur,hv,Nat.le_trans hB hb,rest⟩
theorem u8_ones(l:List UInt8):∀u∈l.map u8v,u.oneCell'=true:=fun u hu=> by obtain ⟨x,_,rfl⟩:=List.mem_map.1 hu;rfl
theorem CellsAt.upd{S:Nat→Prop}{w w':World}(h:CellsAt w A cs)(u:Upd S w w')(hS:∀ad,A=some ad→¬S ad.block):CellsAt w' A cs:=fun j v hv=> by
 obtain ⟨ad,e,hc⟩:=h j v hv;have hb:(ad.add j).block=ad.block:=by unfold Addr.add;split <;> rfl
 refine ⟨ad,e,?_⟩;rw[Upd.cell u (lt_of_cell hc) (by rw[hb];exact hS ad e)];exact hc
theorem CellsAt.drop{w:World}{o:Nat}(h:CellsAt w (some ⟨g,o,none⟩) cs)(k:Nat):CellsAt w (some ⟨g,o+k,none⟩) (cs.drop k):=fun j v hv=> by
 rw[List.getElem?_drop] at hv;obtain ⟨ad,e,hc⟩:=h (k+j) v hv;obtain rfl:=Option.some.inj e;refine ⟨_,rfl,?_⟩;have e2:(⟨g,o,none⟩:Addr).add (k+j)=(⟨g,o+k,none⟩:Addr).add j:=by simp only[Addr.add_lit,Nat.add_assoc]
 rw[←e2];exact hc
theorem CellsAt.take{w:World}(h:CellsAt w A cs)(k:Nat):CellsAt w A (cs.take k):=fun j v hv=> by
 rw[List.getElem?_take] at hv;split at hv
 ·exact h j v hv
 ·cases hv
theorem CellsAt.cell{w:World}{o:Nat}(h:CellsAt w (some ⟨g,o,none⟩) cs){j:Nat}(hj:cs[j]? =some v):w.cell? ⟨g,o+j,none⟩=some v:=by
 obtain ⟨ad,e,hc⟩:=h j v hj;obtain rfl:=Option.some.inj e;have e2:(⟨g,o,none⟩:Addr).add j=⟨g,o+j,none⟩:=by simp only[Addr.add_lit]
 rw[←e2];exact hc
theorem CellsAt.row{w:World}(h:w.ownsRow B e 1 (.slice (some ⟨g,0,none⟩) n c) n xs):CellsAt w (some ⟨g,0,none⟩) xs:=fun j v hv=> ⟨_,rfl,h.cells (g:=g) rfl j v hv⟩
theorem own_cap{w:World}(h:w.ownsRow B e size (.slice (some ⟨g,0,none⟩) n c) n xs):n≤c:=by
 rcases h.2 with ⟨hv,_⟩ | ⟨g',cap,cur,hv,_,_,hnc,_⟩
 ·cases hv
 ·simp only[Value.slice.injEq,true_and] at hv;obtain ⟨_,rfl⟩:=hv;exact hnc
theorem row_cut{w:World}(h:w.ownsRow B e 1 (.slice A n c) n xs)(hm:m≤n):w.ownsRow B e 1 (.slice A m c) m (xs.take m):=by
 have hl:=h.1;refine ⟨by rw[List.length_take];omega,?_⟩;rcases h.2 with ⟨hv,h0⟩ | ⟨g,cap,cur,hv,hb,hg,hnc,hcm,hcs,ht⟩
 ·simp only[Value.slice.injEq] at hv;obtain ⟨rfl,h1,rfl⟩:=hv;left;exact ⟨by simp;omega,by omega⟩
 ·simp only[Value.slice.injEq,true_and] at hv;obtain ⟨rfl,rfl⟩:=hv;right;refine ⟨g,c,cur,rfl,hb,hg,by omega,hcm,hcs,?_⟩;have e:xs.take m=(cur.toList.take (n*1)).take m:=by rw[←ht]
  rw[List.take_take] at e;rw[e];congr 1;omega
section
variable {P:Program} {w:World}
theorem store_whole{Q:Exit→Act→World→Prop}(hgd:o.guard=none)(ty:TypeId)(x y:Operand)(ho:o.op= .store ty x y)
 (g:Nat) (hx:a.eval x= .pointer (some ⟨g,0,none⟩)) (vs:List Value) (hy:a.eval y= .agg vs.toArray) (hi:(P.info? ty).map (·.size)=some vs.length)
 (cs:List Value) (t:TypeId) (hg:w.heap[g]? =some (.cells cs.toArray t (0,0))) (hl:cs.length=vs.length) (h1:∀u∈vs,u.oneCell'=true)
 (h:wpList P ops Q rest (a.put o.dst undef) (w.setRow g vs.toArray)):wpList P ops Q (o::rest) a w:=by
 refine wpList_storeAgg hgd ty x y ho g 0 hx vs hy hi cs t hg (by omega) h1 ?_;rw[over_all _ _ hl];exact h
theorem store_new{Q:Exit→Act→World→Prop}(hgd:o.guard=none)(ty:TypeId)(x y:Operand)(ho:o.op= .store ty x y)
 (z:Array Value) (t:TypeId) (hx:a.eval x= .pointer (some ⟨w.heap.size,0,none⟩)) (vs:List Value) (hy:a.eval y= .agg vs.toArray) (hi:(P.info? ty).map (·.size)=some vs.length) (hz:z.size=vs.length) (h1:∀u∈vs,u.oneCell'=true)
 (h:wpList P ops Q rest (a.put o.dst undef) (w.alloc (.cells vs.toArray t))):wpList P ops Q (o::rest) a (w.alloc (.cells z t)):=by
 refine wpList_storeAgg hgd ty x y ho w.heap.size 0 hx vs hy hi z.toList t (blk_alloc w _) (by simp[hz]) h1 ?_;rw[over_all _ _ (by simpa using hz),setRow_alloc];exact h
end
theorem hash_size:(Tryz.prog.info? 33).map (·.size)=some 32:=by kernel_rfl
theorem hash_size32(h:List UInt8)(hl:h.length=32):(Tryz.prog.info? 33).map (·.size)=some (h.map u8v).length:=by rw[hash_size,List.length_map,hl]
abbrev zero32:Array Value:=#[.int .u8 0,.int .u8 0,.int .u8 0,.int .u8 0,.int .u8 0,.int .u8 0,.int .u8 0,.int .u8 0,.int .u8 0,.int .u8 0,.int .u8 0,.int .u8 0,.int .u8 0,.int .u8 0,.int .u8 0,.int .u8 0,.int .u8 0,.int .u8 0,.int .u8 0,.int .u8 0,.int .u8 0,.int .u8 0,.int .u8 0,.int .u8 0,.int .u8 0,.int .u8 0,.int .u8 0,.int .u8 0,.int .u8 0,.int .u8 0,.int .u8 0,.int .u8 0]
abbrev hashV(h:List UInt8):Value:= .agg (h.map u8v).toArray
theorem blk_cells{w:World}(h:w.heap[g]? =some (.cells cs.toArray t f)):∀j v,cs[j]? =some v→w.cell? ⟨g,0+j,none⟩=some v:=fun j v hv=> by rw[cell_of_blk h];simpa using hv
def hcells(l:List HB):List Value:=(l.map (fun h=> h.map u8v)).flatten
def H32(l:List HB):Prop:=∀h∈l,h.length=32
theorem H32.nil:H32 []:=fun h hh=> by cases hh
theorem H32.cons{h:HB}(h1:h.length=32)(h2:H32 l):H32 (h::l):=fun x hx=> by
 rcases List.mem_cons.1 hx with rfl | hx
 ·exact h1
 ·exact h2 x hx
theorem H32.app{a b:List HB}(h1:H32 a)(h2:H32 b):H32 (a++b):=fun x hx=> (List.mem_append.1 hx).elim (h1 x) (h2 x)
theorem H32.take(h:H32 l)(k:Nat):H32 (l.take k):=fun x hx=> h x (List.mem_of_mem_take hx)
theorem H32.drop(h:H32 l)(k:Nat):H32 (l.drop k):=fun x hx=> h x (List.mem_of_mem_drop hx)
theorem H32.get(h:H32 l)(i:Nat)(hi:i < l.length):(l[i]).length=32:=h _ (List.getElem_mem hi)
theorem H32.getD(h:H32 l)(i:Nat)(hi:i < l.length):(l.getD i []).length=32:=by rw[List.getD_eq_getElem?_getD,List.getElem?_eq_getElem hi];exact h.get i hi
theorem hcells_cons(h:HB)(l:List HB):hcells (h::l)=h.map u8v++hcells l:=by simp[hcells]
theorem hcells_app(a b:List HB):hcells (a++b)=hcells a++hcells b:=by simp[hcells]
theorem hcells_one(h:HB):hcells [h]=h.map u8v:=by simp[hcells]
theorem hcells_len(h:H32 l):(hcells l).length=l.length*32:=by
 induction l with
 | nil=> rfl
 | cons x l ih=>
  rw[hcells_cons,List.length_append,List.length_map,h x (by simp),ih (fun y hy=> h y (by simp[hy])),List.length_cons];omega
theorem hcells_ones(l:List HB):∀u∈hcells l,u.oneCell'=true:=fun u hu=> by obtain ⟨r,hr,hu⟩:=List.mem_flatten.1 hu;obtain ⟨h,_,rfl⟩:=List.mem_map.1 hr;exact u8_ones h u hu
theorem hcells_drop:∀(k:Nat) {l:List HB},H32 l→hcells (l.drop k)=(hcells l).drop (k*32):=by
 intro k;induction k with
 | zero=> intro l _;simp
 | succ k ih=>
  intro l h;cases l with
  | nil=> simp[hcells]
  | cons x l=>
   have hl:(x.map u8v).length=32:=by rw[List.length_map,h x (by simp)]
   rw[List.drop_succ_cons,ih (fun y hy=> h y (by simp[hy])),hcells_cons,show (k+1)*32=32+k*32 by omega,List.drop_append,List.drop_of_length_le (l:=x.map u8v) (by rw[hl];omega),List.nil_append,hl];congr 1;omega
theorem hcells_take:∀(k:Nat) {l:List HB},H32 l→hcells (l.take k)=(hcells l).take (k*32):=by
 intro k;induction k with
 | zero=> intro l _;simp[hcells]
 | succ k ih=>
  intro l h;cases l with
  | nil=> simp[hcells]
  | cons x l=>
   have hl:(x.map u8v).length=32:=by rw[List.length_map,h x (by simp)]
   rw[List.take_succ_cons,hcells_cons,ih (fun y hy=> h y (by simp[hy])),hcells_cons,show (k+1)*32=32+k*32 by omega,List.take_append,List.take_of_length_le (l:=x.map u8v) (by rw[hl];omega),hl,show 32+k*32 - 32=k*32 by omega]
theorem hcells_get(h:H32 l)(i:Nat)(hi:i < l.length)(j:Nat)(v:Value)(hv:((l.getD i []).map u8v)[j]? =some v):(hcells l)[i*32+j]? =some v:=by
 have e:l.drop i=l.getD i []::l.drop (i+1):=by rw[List.getD_eq_getElem?_getD,List.getElem?_eq_getElem hi];exact List.drop_eq_getElem_cons hi
 have e2:(hcells l)[i*32+j]? =((hcells l).drop (i*32))[j]? :=by rw[List.getElem?_drop]
 have hj:j < ((l.getD i []).map u8v).length:=(List.getElem?_eq_some_iff.1 hv).1;rw[e2,←hcells_drop i h,e,hcells_cons,List.getElem?_append_left hj];exact hv
theorem hcells_set(h:H32 l)(i:Nat)(hi:i < l.length)(x:HB):hcells (l.set i x)=(hcells l).take (i*32)++(x.map u8v++(hcells l).drop (i*32+32)):=by rw[←hcells_take i h,show i*32+32=(i+1)*32 by omega,←hcells_drop (i+1) h,←hcells_cons,←hcells_app];congr 1;rw[List.set_eq_take_append_cons_drop,if_pos hi]
theorem hash_at{w:World}{o:Nat}(hA:CellsAt w (some ⟨g,o,none⟩) (hcells l))(h:H32 l)(i:Nat)(hi:i < l.length):∀j v,((l.getD i []).map u8v)[j]? =some v→w.cell? ⟨g,o+i*32+j,none⟩=some v:=fun j v hv=> by have:=hA.cell (hcells_get h i hi j v hv);rw[Nat.add_assoc];exact this
theorem CellsAt.row32{w:World}(h:w.ownsRow B e size (.slice (some ⟨g,0,none⟩) n c) n xs):CellsAt w (some ⟨g,0,none⟩) xs:=fun j v hv=> ⟨_,rfl,h.cells (g:=g) rfl j v hv⟩
theorem row_store{w:World}(h:w.ownsRow B e size v n xs)(hg:v.ownBlock=some g):
 ∃cur:List Value,w.heap[g]? =some (.cells cur.toArray e (0,0))∧n*size≤cur.length∧∀(off:Nat) (vs:List Value),off+vs.length≤n*size→(w.setRow g (over cur off vs).toArray).ownsRow B e size v n (xs.take off++(vs++xs.drop (off+vs.length))):=by
 rcases h.2 with ⟨rfl,_⟩ | ⟨g',cap,cur,rfl,hb,hgg,hnc,hcm,hcs,ht⟩
 ·cases hg
 ·obtain rfl:g'=g:=by simpa[Value.ownBlock] using hg
  have hlen:n*size≤cur.toList.length:=by rw[Array.length_toList,hcs];exact Nat.mul_le_mul_right _ hnc
  refine ⟨cur.toList,by simpa using hgg,hlen,fun off vs hfit=> ?_⟩;have hxl:=h.1;refine ⟨?_,.inr ⟨g',cap,_,rfl,hb,setRow_heap w g' cur _ e _ hgg,hnc,hcm,?_,?_⟩⟩
  ·simp only[List.length_append,List.length_take,List.length_drop];omega
  ·simp only[over,List.size_toArray,List.length_append,List.length_take,List.length_drop,Array.length_toList];rw[Array.length_toList] at hlen;omega
  ·simp only[over];rw[←ht];have hA:(cur.toList.take off).length=off:=by rw[List.length_take];omega
   rw[List.take_append,hA,List.take_of_length_le (l:=cur.toList.take off) (by rw[hA];omega),List.take_append,List.take_of_length_le (l:=vs) (by omega),List.take_take,List.drop_take,Nat.min_eq_left (by omega)];congr 3;omega
theorem row_cutE{w:World}(h:w.ownsRow B e size (.slice A n c) n xs)(hm:m≤n):w.ownsRow B e size (.slice A m c) m (xs.take (m*size)):=by
 have hl:=h.1;have hms:m*size≤n*size:=Nat.mul_le_mul_right _ hm;refine ⟨by rw[List.length_take];omega,?_⟩;rcases h.2 with ⟨hv,h0⟩ | ⟨g,cap,cur,hv,hb,hg,hnc,hcm,hcs,ht⟩
 ·simp only[Value.slice.injEq] at hv;obtain ⟨rfl,h1,rfl⟩:=hv;left;exact ⟨by simp;omega,by omega⟩
 ·simp only[Value.slice.injEq,true_and] at hv;obtain ⟨rfl,rfl⟩:=hv;right;refine ⟨g,c,cur,rfl,hb,hg,by omega,hcm,hcs,?_⟩;rw[←ht,List.take_take];congr 1;omega
section
variable {P:Program}
end
abbrev str(l:List UInt8):ByteArray:=⟨l.toArray⟩
theorem str_size(l:List UInt8):(str l).size=l.length:=by simp[ByteArray.size]
theorem str_toList(s:ByteArray):str s.data.toList=s:=by cases s;simp
theorem strOfNums_str(xs:List UInt8):strOfNums (xs.map fun c=> (c.toNat:Int))=str xs:=by
 have:(xs.map fun c=> (c.toNat:Int)).map (fun n=> UInt8.ofNat n.toNat)=xs:=by rw[List.map_map];exact (List.map_congr_left (fun c _=> by simp)).trans (List.map_id xs)
 unfold strOfNums str;rw[this]
theorem run_str_own(w:World){xs:List UInt8}(h:w.ownsRow B 5 1 v xs.length (xs.map u8v)):
 (convert 50 9 v).run Tryz.prog w= .ok (.string (str xs)) w:=by
 rcases h.2 with ⟨rfl,hn⟩ | ⟨g,cap,cur,rfl,hb,hg,hnc,hcm,hcs,ht⟩
 ·have:xs= []:=List.eq_nil_of_length_eq_zero hn;subst this;exact run_convert_bytes_nil w 50 5 Tryz.underlying50 Tryz.underlying5 0 0 9 Tryz.underlying9
 ·have e:=run_convert_bytes_arg (P:=Tryz.prog) w 50 5 Tryz.underlying50 Tryz.underlying5 g 0 xs.length cap (xs.map fun c=> (c.toNat:Int)) (by simp) (fun i hi=> by have:=h.cells (g:=g) rfl i (u8v xs[i]) (by simp[hi]);simpa[Addr.add_lit,hi] using this) 9 Tryz.underlying9
  rw[e,strOfNums_str]
section
variable {P:Program}
theorem setRow_same{w:World}{cs:Array Value}(h:w.heap[g]? =some (.cells cs t f)):w.setRow g cs=w:=by
 have e:(w.setRow g cs).heap=w.heap:=by
  apply Array.ext_getElem?;intro k;by_cases hk:k=g
  ·subst hk;rw[setRow_heap w k cs cs t f h,h]
  ·exact setRow_other w g k cs hk
 cases w
 simp only[World.setRow] at e⊢;rw[e]
theorem run_clear_row(w:World)(t ty e:TypeId)(i:TypeInfo)(z:Value)(ht:P.underlying t=some (.slice e))(hi:P.info? e=some i)(hz:i.zero=some z)(h1:∀u∈(Builtin.zeroCells z.cells 1).toList,u.oneCell'=true)(g off n c:Nat)(cs:List Value)(te:TypeId)
 (hg:w.heap[g]? =some (.cells cs.toArray te (0,0))) (hfit:off+n*z.cells.size≤cs.length):∃vs:List Value,vs.length=n*z.cells.size∧
 (Builtin.clear_ #[t] ty #[.slice (some ⟨g,off,none⟩) n c]).run P w= .ok (.tuple #[]) (w.setRow g (over cs off vs).toArray):=by
 cases n with
 | zero=>
  refine ⟨[],by simp,?_⟩;have e1:over cs off []=cs:=by simp[over]
  have e2:w.setRow g cs.toArray=w:=setRow_same hg;rw[e1,e2];simp[Builtin.clear_,run_underlying ht]
 | succ n=>
  refine ⟨(Builtin.zeroCells z.cells (n+1)).toList,by simp[Builtin.zeroCells],?_⟩;have hone:∀u∈(Builtin.zeroCells z.cells (n+1)).toList,u.oneCell'=true:=fun u hu=> by
   simp only[Builtin.zeroCells,Array.toList_map,List.mem_map] at hu;obtain ⟨k,hk,rfl⟩:=hu;have hk2:k < (n+1)*z.cells.size:=by simpa using hk
   have hpos:0 < z.cells.size:=by
    rcases Nat.eq_zero_or_pos z.cells.size with h0 | h0
    ·rw[h0] at hk2;omega
    ·exact h0
   refine h1 _ ?_;simp only[Builtin.zeroCells,Array.toList_map,List.mem_map];refine ⟨k % z.cells.size,by simp[Nat.mod_lt _ hpos],by rw[Nat.mod_mod]⟩
  have hst:=run_storeCells_at P g off te (Builtin.zeroCells z.cells (n+1)).toList 0 cs.toArray w hg (by simp[Builtin.zeroCells];omega) hone;simp only[Nat.add_zero] at hst;have hov:cs.take off++(Builtin.zeroCells z.cells (n+1)).toList++cs.drop (off+(Builtin.zeroCells z.cells (n+1)).toList.length)=over cs off (Builtin.zeroCells z.cells (n+1)).toList:=by simp[over]
  simp[Builtin.clear_,run_underlying ht,zeroValue,typeInfo,hi,hz,hst,over]
theorem wpList_clear{w:World}{Q:Exit→Act→World→Prop}(hgd:o.guard=none)(s:Operand)(t:TypeId)
 (ho:o.op= .call {callee:= .builtin .clear,args:=#[s],argTypes:=#[t]}) (e:TypeId) (i:TypeInfo) (z:Value) (ht:P.underlying t=some (.slice e)) (hi:P.info? e=some i) (hz:i.zero=some z) (h1:∀u∈(Builtin.zeroCells z.cells 1).toList,u.oneCell'=true) (g off n c:Nat) (cs:List Value) (te:TypeId)
 (hs:a.eval s= .slice (some ⟨g,off,none⟩) n c) (hg:w.heap[g]? =some (.cells cs.toArray te (0,0))) (hfit:off+n*z.cells.size≤cs.length)
 (h:∀vs:List Value,vs.length=n*z.cells.size→wpList P ops Q rest (a.put o.dst (.tuple #[])) (w.setRow g (over cs off vs).toArray)):wpList P ops Q (o::rest) a w:=by
 refine wpList_plain hgd fun K hK=> ?_;obtain ⟨vs,hl,hr⟩:=run_clear_row (P:=P) w t o.type e i z ht hi hz h1 g off n c cs te hg hfit;unfold Oper.wp execOp;simp only[ho,resolve,invoke,builtin,Sem.run_bind,Sem.run_pure,Result.andThen_ok,List.map_toArray,List.map_cons,List.map_nil,hs,hr];exact hK _ _ (h vs hl)
theorem wpList_clear0{w:World}{Q:Exit→Act→World→Prop}(hgd:o.guard=none)(s:Operand)(t:TypeId)
 (ho:o.op= .call {callee:= .builtin .clear,args:=#[s],argTypes:=#[t]}) (e:TypeId) (ht:P.underlying t=some (.slice e)) (A:Option Addr) (n c:Nat)
 (hs:a.eval s= .slice A n c) (hn:n=0)
 (h:wpList P ops Q rest (a.put o.dst (.tuple #[])) w):wpList P ops Q (o::rest) a w:=by
 subst hn;refine wpList_plain hgd fun K hK=> ?_;have hr:(Builtin.clear_ #[t] o.type #[.slice A 0 c]).run P w= .ok (.tuple #[]) w:=by cases A <;> simp[Builtin.clear_,run_underlying ht]
 unfold Oper.wp execOp;simp only[ho,resolve,invoke,builtin,Sem.run_bind,Sem.run_pure,Result.andThen_ok,List.map_toArray,List.map_cons,List.map_nil,hs,hr];exact hK _ _ h
theorem row_cut_over{w:World}(h:w.ownsRow B e size (.slice (some ⟨g,0,none⟩) n c) n xs)(hm:m≤n):
 ∃cur:List Value,w.heap[g]? =some (.cells cur.toArray e (0,0))∧n*size≤cur.length∧∀vs:List Value,m*size+vs.length≤cur.length→(w.setRow g (over cur (m*size) vs).toArray).ownsRow B e size (.slice (some ⟨g,0,none⟩) m c) m (xs.take (m*size)):=by
 have hl:=h.1;have hms:m*size≤n*size:=Nat.mul_le_mul_right _ hm;rcases h.2 with ⟨hv,_⟩ | ⟨g',cap,cur,hv,hb,hg,hnc,hcm,hcs,ht⟩
 ·cases hv
 ·simp only[Value.slice.injEq,Option.some.injEq,Addr.mk.injEq,true_and,and_true] at hv;obtain ⟨rfl,rfl⟩:=hv;have hlen:n*size≤cur.toList.length:=by rw[Array.length_toList,hcs];exact Nat.mul_le_mul_right _ hnc
  refine ⟨cur.toList,by simpa using hg,hlen,fun vs hfit=> ⟨by rw[List.length_take];omega,.inr ⟨g,c,_,rfl,hb,setRow_heap w g cur _ e _ hg,by omega,hcm,?_,?_⟩⟩⟩
  ·have e1:(over cur.toList (m*size) vs).length=cur.toList.length:=by simp only[over,List.length_append,List.length_take,List.length_drop];omega
   rw[List.size_toArray,e1,Array.length_toList,hcs]
  ·simp only[over];rw[←ht,List.take_append,List.take_take,List.take_take];have hA:(cur.toList.take (m*size)).length=m*size:=by rw[List.length_take];omega
   rw[hA,Nat.sub_self,List.take_zero,List.append_nil,Nat.min_self,Nat.min_eq_left hms]
end
abbrev SB(B b:Nat)(bs:List UInt8)(w:World):Prop:=Lib.IsBuilder 226 5 B b (bs.map u8v) w
theorem cc_used(b:Nat)(w:World)(h0:w.cell? ⟨b,0,none⟩=some (.pointer (some ⟨b,0,none⟩))):
 Calls Tryz.prog 239 #[.pointer (some ⟨b,0,none⟩)] w fun e w'=> e= .returned (.tuple #[])∧w'=w:=by
 obtain ⟨j,hj,_⟩:=Option.map_eq_some_iff.1 (show (Tryz.prog.info? 226).map (·.size)=some 2 by kernel_rfl);go_enter Tryz.func239,Tryz.ntmps239;go_wp2;rw[Lib.run_neq_ptr_same w _ Tryz.underlying224 hj];go_wp2;go_end0;exact ⟨rfl,rfl⟩
theorem cc_fresh(b:Nat)(w:World)(h0:w.cell? ⟨b,0,none⟩=some (.pointer none))(hsh:w.shape? b=some (226,2))(hfz:w.frozen? ⟨b,0,none⟩=false):
 Calls Tryz.prog 239 #[.pointer (some ⟨b,0,none⟩)] w fun e w'=> e= .returned (.tuple #[])∧w'=w.setCell ⟨b,0,none⟩ (.pointer (some ⟨b,0,none⟩)):=by
 obtain ⟨j,hj,hjs⟩:=Option.map_eq_some_iff.1 (show (Tryz.prog.info? 226).map (·.size)=some 2 by kernel_rfl);go_enter Tryz.func239,Tryz.ntmps239;go_wp2;rw[Lib.run_to_unsafe w ⟨b,0,none⟩ Tryz.underlying224 Tryz.underlying345 hj (by rw[hjs];decide) hsh (Nat.zero_lt_succ 1)];simp only[Result.andThen];rw[Oper.upon_value];go_wp2;rw[run_callFunc_extern Tryz.func288 (by kernel_rfl) (by kernel_rfl) (by kernel_rfl) (e:=Extern.AbiNoEscape.same) (by kernel_rfl)];rw[Lib.run_noEscape];simp only[Result.andThen];rw[Oper.upon_value];go_wp2;rw[Lib.run_from_unsafe w ⟨b,0,none⟩ Tryz.underlying345 Tryz.underlying224 hj hsh (by kernel_rfl)];simp only[Result.andThen];rw[Oper.upon_value];go_wp2;go_end0;exact ⟨rfl,rfl⟩
theorem cc_any(B b:Nat)(bs:List Value)(w:World)(h:Lib.IsBuilder 226 5 B b bs w):
 Calls Tryz.prog 239 #[.pointer (some ⟨b,0,none⟩)] w fun e w'=> e= .returned (.tuple #[])∧(Lib.BuilderAt 226 5 B b (.pointer (some ⟨b,0,none⟩)) bs w'∧Below B w w'):=by
 rcases h with h | h
 ·refine (cc_fresh b w h.cell0 h.shape h.frozen0).mono ?_;rintro e w' ⟨rfl,rfl⟩;exact ⟨rfl,h.used _,(Below.refl B w).setCell (p:=⟨b,0,none⟩) h.1 _⟩
 ·refine (cc_used b w h.cell0).mono ?_;rintro e w' ⟨rfl,rfl⟩;exact ⟨rfl,h,Below.refl B _⟩
theorem wbyte_any(B b:Nat)(bs:List Value)(c:Int)(w:World)(h:Lib.IsBuilder 226 5 B b bs w)(hlen:bs.length+1≤140737488355328)(hBw:B≤w.heap.size):
 Calls Tryz.prog 285 #[.pointer (some ⟨b,0,none⟩),.int .u8 c] w fun e w'=> e= .returned .nilIface∧(Lib.BuilderAt 226 5 B b (.pointer (some ⟨b,0,none⟩)) (bs++ [.int .u8 c]) w'∧Below B w w'):=by
 obtain ⟨i0,hi,hz0,hz1,hz2⟩:=info_parts info_u8;have C:=cc_any B b bs w h;go_enter Tryz.func285,Tryz.ntmps285;go_wp2_with fail;refine C.mono ?_;rintro e w1 ⟨rfl,h1,hb1⟩;obtain ⟨hB,v,hbk,hown,hne⟩:=h1;have c0:w1.cell? ⟨b,0,none⟩=some (.pointer (some ⟨b,0,none⟩)):=by rw[Lib.cell_of_heap hbk];rfl
 have c1:w1.cell? ⟨b,1,none⟩=some v:=by rw[Lib.cell_of_heap hbk];rfl
 go_wp2_with (at_builtin;refine wpList_append_own _ rfl _ _ 50 rfl B 5 i0 (.int .u8 0) 1 1 Tryz.underlying50 hi hz0 hz1 hz2 rfl (by decide) _ _ _ rfl (hown.alloc _) ⟨w1.heap.size,0,none⟩ 1 1 [.int .u8 c] rfl rfl ?c1 ?c2 ?c3 ?c4 ?c5 ?_);case c1=>
  intro j u hj;match j,hj with
  | 0,hj=> simp at hj;subst hj;simp[Addr.add]
 case c2=> intro u hu;simp at hu;subst hu;rfl
 case c3=> unfold maxLen;omega
 case c4=> omega
 case c5=> have:=hb1.size;simp;omega
 intro v' w2 hown' hgrow _;have hlt:b < w1.heap.size:=lt_of_blk hbk;have hb2:w2.heap[b]? =some (.cells #[.pointer (some ⟨b,0,none⟩),v] 226 (0,0)):=by rw[hgrow.block b (by simp;omega) (fun e=> hne e.symm),Lib.alloc_old w1 _ b hlt];exact hbk
 have d0:w2.cell? ⟨b,0,none⟩=some (.pointer (some ⟨b,0,none⟩)):=by rw[Lib.cell_of_heap hb2];rfl
 have d1:w2.cell? ⟨b,1,none⟩=some v:=by rw[Lib.cell_of_heap hb2];rfl
 have f1:w2.frozen? ⟨b,1,none⟩=false:=Lib.frozen_of_heap hb2 1;obtain ⟨g,cap,rfl⟩:∃g cap,v'= .slice (some ⟨g,0,none⟩) (bs.length+1) cap:=by
  rcases hown'.2 with ⟨_,h0⟩ | ⟨g,cap,cur,hv,_⟩
  ·omega
  ·exact ⟨g,cap,hv⟩
 go_wp2;go_ret;refine ⟨rfl,?_,?_⟩
 ·exact Lib.BuilderAt.put (T:=226) (e:=5) hB hb2 (bs':=bs++ [.int .u8 c]) (by simpa using hown') (by decide)
 ·exact ((hb1.alloc (by have:=hb1.size;omega) _).grown hgrow (by have:=hb1.size;simp;omega) (fun k hk=> (hown.lt k hk).1)).setCell (p:=⟨b,1,none⟩) hB _
theorem cc_any2(B b:Nat)(bs:List Value)(w:World)(h:Lib.IsBuilder 226 5 B b bs w):
 Calls Tryz.prog 239 #[.pointer (some ⟨b,0,none⟩)] w fun e w'=> e= .returned (.tuple #[])∧(Lib.BuilderAt 226 5 B b (.pointer (some ⟨b,0,none⟩)) bs w'∧Below B w w'∧∀k,k≠b→w'.heap[k]? =w.heap[k]?):=by
 rcases h with h | h
 ·refine (cc_fresh b w h.cell0 h.shape h.frozen0).mono ?_;rintro e w' ⟨rfl,rfl⟩;exact ⟨rfl,h.used _,(Below.refl B w).setCell (p:=⟨b,0,none⟩) h.1 _,fun k hk=> Below.heap_setCell _ _ _ _ hk⟩
 ·refine (cc_used b w h.cell0).mono ?_;rintro e w' ⟨rfl,rfl⟩;exact ⟨rfl,h,Below.refl B _,fun _ _=> rfl⟩
theorem wrows_any(B b:Nat)(bs:List Value)(A:Option Addr)(n c:Nat)(news:List Value)(w:World)(h:Lib.IsBuilder 226 5 B b bs w)(hA:CellsAt w A news)(hAB:∀ad,A=some ad→ad.block≠b)(hn:news.length=n)(h1:∀u∈news,u.oneCell'=true)(hlen:bs.length+n≤140737488355328)(hBw:B≤w.heap.size):
 Calls Tryz.prog 164 #[.pointer (some ⟨b,0,none⟩),.slice A n c] w fun e w'=> e= .returned (.tuple #[.int .i64 n,.nilIface])∧(Lib.BuilderAt 226 5 B b (.pointer (some ⟨b,0,none⟩)) (bs++news) w'∧Below B w w'):=by
 obtain ⟨i0,hi,hz0,hz1,hz2⟩:=info_parts info_u8;have C:=cc_any2 B b bs w h;have HA:=ZA hA;have HAB:=ZA hAB;clear hA hAB;go_enter Tryz.func164,Tryz.ntmps164;go_wp2_with fail;refine C.mono ?_;rintro e w1 ⟨rfl,hb0,hb1,hsame⟩;have HA1:Hid (CellsAt w1 A news):=ZA (fun j u hu=> by
  obtain ⟨ad,e,hc⟩:=HA.o j u hu;have hlt:=lt_of_cell hc;have hbl:(ad.add j).block=ad.block:=by unfold Addr.add;split <;> rfl
  refine ⟨ad,e,?_⟩;rw[World.cell?_of_block (hsame _ (by rw[hbl];exact HAB.o ad e))];exact hc)
 clear hsame;obtain ⟨hB,v,hbk,hown,hne⟩:=hb0;have c0:w1.cell? ⟨b,0,none⟩=some (.pointer (some ⟨b,0,none⟩)):=by rw[Lib.cell_of_heap hbk];rfl
 have c1:w1.cell? ⟨b,1,none⟩=some v:=by rw[Lib.cell_of_heap hbk];rfl
 have HM:=ZA (show bs.length+n≤maxLen∧(bs.length+n)*1≤140737488355328 by unfold maxLen;omega);have HBW:=ZA (show B≤w1.heap.size by have:=hb1.size;omega);go_wp2_with (at_builtin;refine wpList_appX rfl _ _ 50 rfl B 5 i0 _ 1 1 Tryz.underlying50 hi hz0 hz1 hz2 rfl (by decide) _ _ _ rfl hown A n c news rfl (by rw[hn,Nat.mul_one]) HA1.o h1 HM.o.1 HM.o.2 HBW.o ?_);intro A' c' w2 hown' hgrow hat;have hlt:b < w1.heap.size:=lt_of_blk hbk;have hb2:w2.heap[b]? =some (.cells #[.pointer (some ⟨b,0,none⟩),v] 226 (0,0)):=by rw[hgrow.block b hlt (fun e=> hne e.symm)];exact hbk
 have d0:w2.cell? ⟨b,0,none⟩=some (.pointer (some ⟨b,0,none⟩)):=by rw[Lib.cell_of_heap hb2];rfl
 have d1:w2.cell? ⟨b,1,none⟩=some v:=by rw[Lib.cell_of_heap hb2];rfl
 have f1:w2.frozen? ⟨b,1,none⟩=false:=Lib.frozen_of_heap hb2 1;have HOWN:=ZA hown';clear hat;go_wp2;go_ret2;refine ⟨rfl,?_,?_⟩
 ·exact Lib.BuilderAt.put (T:=226) (e:=5) hB hb2 (bs':=bs++news) (by rw[List.length_append,hn];exact HOWN.o) (by decide)
 ·exact (hb1.grown hgrow (by have:=hb1.size;omega) (fun k hk=> (hown.lt k hk).1)).setCell (p:=⟨b,1,none⟩) hB _
theorem Ext.grow'(w:World)(k:Nat)(os:Array Obj):Ext w (Sort.grow (w.drewN k) os):=
 Ext.of_below (by have:Below w.heap.size (w.drewN k) (Sort.grow (w.drewN k) os):=⟨rfl,rfl,rfl,by simp[Sort.grow,World.drewN],fun b hb=> by simp[Sort.grow,World.drewN,Array.getElem?_append,hb]⟩;exact ⟨this.os,this.tape,this.output,this.size,this.block⟩)
def Tab10(w:World):Prop:=Lib.TabIs Tryz.prog w "internal/strconv.uint64pow10" .u64 Lib.pow10Tab
theorem Tab10.ext{w w':World}(h:Tab10 w)(u:Ext w w'):Tab10 w':=by
 unfold Tab10 Lib.TabIs World.var? at*;cases hg:Tryz.prog.globalNamed "internal/strconv.uint64pow10" with
 | none=> simp[hg] at h
 | some g=>
  simp only[hg,Option.bind_some] at h⊢;cases hb:w.heap[g]? with
  | none=> simp[hb] at h
  | some o=> rw[Ext.blk u hb];rw[hb] at h;exact h
def wordL(n:Nat):List UInt8:=35::Lib.itoa (n:Int)
theorem wordL_str(n:Nat):(⟨#[35]⟩:ByteArray)++(⟨(Lib.itoa (n:Int)).toArray⟩:ByteArray)=str (wordL n):=by apply ByteArray.ext;simp[wordL,ByteArray.data_append]
theorem word_any(n:Nat)(hn:n≤1000000000){w:World}(T:Tab10 w):Calls Tryz.prog 166 #[.int .i64 n] w fun e w'=> e= .returned (.string (str (wordL n)))∧Ext w w':=by
 have C:=Tryz.strconv_Itoa (n:Int) (by omega) (by omega) w T;have hl:(Lib.itoa (n:Int)).length≤21:=Lib.itoa_length_le n (by omega) (by omega);have hlen:¬9223372036854775807 < 1+(Lib.itoa (n:Int)).length:=by omega
 have HW:=ZA (wordL_str n);generalize Lib.itoa (n:Int)=l at*;generalize wordL n=r at*;clear T;go_enter Tryz.func166,Tryz.ntmps166;go_wp2_with fail;refine C.mono ?_;rintro e w1 ⟨rfl,k,os,rfl⟩;have U:=ZA (Ext.grow' w k os);go_wp2_with fail;go_ret;exact ⟨by rw[←HW.o];rfl,U.o⟩
theorem markText_any(n:Nat)(hn:n≤1000000000){w:World}(T:Tab10 w):Calls Tryz.prog 73 #[.int .i64 n] w fun e w'=> e= .returned (.string (str (wordL n)))∧Ext w w':=by have C:=word_any n hn T;clear T;go_enter Tryz.func73,Tryz.ntmps73;go_wp2_with fail;refine C.mono ?_;rintro e w1 ⟨rfl,u⟩;go_wp2_with fail;go_ret;exact ⟨rfl,u⟩
section
variable {P:Program} {w:World}
end
end Go.Proofs.YtjnjpgdoncbahaaGreatDoor
