/- The statements' Code, At, Is, IsAt, Same of an error: by contracts. -/
import Derived.Test.YtnkcfkjeeennmaaGreatDoorErr
namespace Go.Proofs.YtnkcfkjeeennmaaGreatDoor
open Go.RowKit Go.Lib
set_option maxHeartbeats 1000000
variable {B k:Nat}{p:Option Int}{se:Nat→Addr}{v:Value}{w w':World}
def gno:Nat→Nat
 | 1=> 0 | 2=> 3 | 3=> 5 | 4=> 2 | 5=> 4 | 6=> 6 | 7=> 7 | 8=> 1
 | 9=> 8 | 10=> 9 | 11=> 10 | 12=> 11 | 13=> 12 | 14=> 13 | 15=> 14 | _=> 15
abbrev sv(se:Nat→Addr)(k:Nat):Value:= .iface 329 (.pointer (some (se k)))
structure Genv (B:Nat) (se:Nat→Addr) (w:World):Prop where
 cell:∀k,1≤k→k≤16→w.cell? ⟨gno k,0,none⟩=some (sv se k)
 row:∀k,1≤k→k≤16→∃c t,w.heap[(se k).block]? =some (.cells c t (0,0))
 inj:∀i j,1≤i→i≤16→1≤j→j≤16→i≠j→se i≠se j
 et:w.cell? ⟨16,0,none⟩=some (.iface 289 (.agg #[.pointer (some ⟨25,38,none⟩)]))
 low:∀k,1≤k→k≤16→gno k < B∧(se k).block < B
 lowt:16 < B
 size:B≤w.heap.size
theorem Genv.below(h:Genv B se w)(k:Below B w w'):Genv B se w' where
 cell i h1 h2:=(k.cell (p:=⟨gno i,0,none⟩) (h.low i h1 h2).1).trans (h.cell i h1 h2)
 row i h1 h2:=by obtain ⟨c,t,hr⟩:=h.row i h1 h2;exact ⟨c,t,(k.block _ (h.low i h1 h2).2).trans hr⟩
 inj:=h.inj
 et:=(k.cell (p:=⟨16,0,none⟩) h.lowt).trans h.et
 low:=h.low
 lowt:=h.lowt
 size:=Nat.le_trans h.size k.size
theorem Genv.ext(h:Genv B se w)(k:Ext w w'):Genv B se w':=h.below (Ext.below k h.size)
abbrev EV:=Option (Nat×Option Int)
def ErrIs(se:Nat→Addr)(w:World)(v:Value):EV→Prop
 | none=> v= .nilIface
 | some (k,none)=> 1≤k∧k≤16∧v=sv se k
 | some (k,some n)=> 1≤k∧k≤16∧∃b,v= .iface 187 (.pointer (some ⟨b,0,none⟩))∧w.heap[b]? =some (.cells #[sv se k,.int .i64 n] 191 (0,0))
theorem ErrIs.ext{x:EV}(h:ErrIs se w v x)(k:Ext w w'):ErrIs se w' v x:=by
 match x,h with
 | none,h=> exact h
 | some (_,none),h=> exact h
 | some (_,some _),⟨h1,h2,b,h3,h4⟩=> exact ⟨h1,h2,b,h3,Ext.blk k h4⟩
def codeOf:EV→Int
 | none=> 0
 | some (k,_)=> k
def placeOf:EV→Int
 | some (_,some n)=> n
 | _=> 0
def placed:EV→Bool
 | some (_,some _)=> true
 | _=> false
theorem is_any(G:Genv B se w)(hv:ErrIs se w v (some (k,p)))(j:Nat)(h1:1≤j)(h2:j≤16):
 Calls Tryz.prog 106 #[v,sv se j] w fun e w'=> e= .returned (.bool (decide (k=j)))∧w=w':=by
 match p,hv with
 | none,⟨k1,k2,e⟩=>
  subst e;by_cases hkj:k=j
  ·subst hkj;simpa using is_same (se k) w
  ·obtain ⟨c,t,hr⟩:=G.row k k1 k2;obtain ⟨c',t',hr'⟩:=G.row j h1 h2;simpa[hkj] using is_other (se k) (se j) c c' t t' w (G.inj k j k1 k2 h1 h2 hkj) hr hr'
 | some n,⟨k1,k2,b,e,hb⟩=>
  subst e;have h0:w.cell? ⟨b,0,none⟩=some (sv se k):=cell_of_blk hb 0;by_cases hkj:k=j
  ·subst hkj;simpa using is_fault_same b (se k) w h0
  ·obtain ⟨c,t,hr⟩:=G.row k k1 k2;obtain ⟨c',t',hr'⟩:=G.row j h1 h2;simpa[hkj] using is_fault_other b (se k) (se j) c c' t t' w h0 (G.inj k j k1 k2 h1 h2 hkj) hr hr'
theorem code_nil(w:World):Calls Tryz.prog 55 #[.nilIface] w fun e w'=> e= .returned (.int .i64 0)∧Ext w w':=by go_enter Tryz.func55,Tryz.ntmps55;go_wp2;go_ret;exact ⟨rfl,Upd.refl _ _⟩
abbrev sents(se:Nat→Addr):Array Value:=#[sv se 1,sv se 2,sv se 3,sv se 4,sv se 5,sv se 6,sv se 7,sv se 8,sv se 9,sv se 10,sv se 11,sv se 12,sv se 13,sv se 14,sv se 15,sv se 16]
theorem sents_at(se:Nat→Addr)(i:Nat)(h:i < 16):(sents se)[i]? =some (sv se (i+1)):=by
 match i,h with
 | 0,_ | 1,_ | 2,_ | 3,_ | 4,_ | 5,_ | 6,_ | 7,_ | 8,_ | 9,_ | 10,_ | 11,_ | 12,_ | 13,_ | 14,_ | 15,_=> rfl
 | n+16,h=> exact absurd h (by omega)
def nAt(c k:Nat):Int:=if c≤k then c else -1
theorem code_some(G:Genv B se w){t:Nat}{x:Value}(hv:ErrIs se w (.iface t x) (some (k,p))):
 Calls Tryz.prog 55 #[.iface t x] w fun e w'=> e= .returned (.int .i64 k)∧Ext w w':=by
 have c1:=G.cell 1 (by decide) (by decide);have c2:=G.cell 2 (by decide) (by decide);have c3:=G.cell 3 (by decide) (by decide);have c4:=G.cell 4 (by decide) (by decide);have c5:=G.cell 5 (by decide) (by decide);have c6:=G.cell 6 (by decide) (by decide);have c7:=G.cell 7 (by decide) (by decide);have c8:=G.cell 8 (by decide) (by decide);have c9:=G.cell 9 (by decide) (by decide);have c10:=G.cell 10 (by decide) (by decide);have c11:=G.cell 11 (by decide) (by decide);have c12:=G.cell 12 (by decide) (by decide);have c13:=G.cell 13 (by decide) (by decide);have c14:=G.cell 14 (by decide) (by decide);have c15:=G.cell 15 (by decide) (by decide);have c16:=G.cell 16 (by decide) (by decide);simp only[gno] at c1 c2 c3 c4 c5 c6 c7 c8 c9 c10 c11 c12 c13 c14 c15 c16;have hk:1≤k∧k≤16:=by match p,hv with | none,h=> exact ⟨h.1,h.2.1⟩ | some _,h=> exact ⟨h.1,h.2.1⟩
 obtain ⟨hk1,hk2⟩:=hk;have HV:=ZA hv;have HG:=ZA G;clear hv G;go_enter Tryz.func55,Tryz.ntmps55;go_wp2;clear c1 c2 c3 c4 c5 c6 c7 c8 c9 c10 c11 c12 c13 c14 c15 c16;go_loop [4,5] (fun n i=> ∃j:Nat,j≤16∧i= .int .i64 j∧n= .int .i64 (nAt k j)) (fun _ i=> 16 - (intOf i).toNat);case atStart=> exact ⟨0,by omega,rfl,by simp[nAt];omega⟩
 case round=>
  obtain ⟨j,hj,rfl,rfl⟩:=hrel;by_cases hlt:j < 16
  ·have hc:((w.alloc (.cells (sents se) 192))).cell? ⟨w.heap.size,j,none⟩=some (sv se (j+1)):=by rw[cell_of_blk (blk_alloc w _)];exact sents_at se j hlt
   have X:=(Upd.refl none' w).alloc (.cells (sents se) 192);have C:=is_any (HG.o.ext X) (HV.o.ext X) (j+1) (by omega) (by omega);clear X;by_cases hkj:k=j+1
   ·subst hkj;have hn:nAt (j+1) j= -1:=if_neg (by omega);go_wp2_with (go_at_call 106;refine C.mono ?_;rintro e w' ⟨rfl,rfl⟩);go_round;case rel=> exact ⟨j+1,by omega,by go_num,by simp[nAt]⟩
    case measure=> simp[intOf];omega
   ·go_wp2_with (go_at_call 106;refine C.mono ?_;rintro e w' ⟨rfl,rfl⟩);go_round;case rel=> exact ⟨j+1,by omega,by go_num,by congr 1;unfold nAt;split <;> split <;> first | rfl | omega⟩
    case measure=> simp[intOf];omega
  ·obtain rfl:j=16:=by omega
   go_wp2;go_ret;exact ⟨by simp[nAt,hk2],(Upd.refl _ _).alloc _⟩
theorem code_any(G:Genv B se w){x:EV}(hv:ErrIs se w v x):
 Calls Tryz.prog 55 #[v] w fun e w'=> e= .returned (.int .i64 (codeOf x))∧Ext w w':=by
 match x,hv with
 | none,h=> cases h;exact code_nil w
 | some (k,none),h=> obtain ⟨h1,h2,e⟩:=h;subst e;exact code_some G (p:=none) ⟨h1,h2,rfl⟩
 | some (k,some n),h=> obtain ⟨h1,h2,b,e,hb⟩:=h;subst e;exact code_some G (p:=some n) ⟨h1,h2,b,rfl,hb⟩
theorem at_any(G:Genv B se w){x:EV}(hv:ErrIs se w v x):
 Calls Tryz.prog 54 #[v] w fun e w'=> e= .returned (.tuple #[.int .i64 (placeOf x),.bool (placed x)])∧Ext w w':=by
 match x,hv with
 | none,h=>
  cases h
  go_enter Tryz.func54,Tryz.ntmps54;go_wp2_with (go_at_call 105;refine (as_nil _ _).mono ?_;rintro e w' ⟨rfl,rfl⟩);go_ret2;exact ⟨rfl,(Upd.refl _ _).alloc _⟩
 | some (k,none),h=>
  obtain ⟨h1,h2,e⟩:=h;subst e;have X:=(Upd.refl none' w).alloc (.cells #[.pointer none] 187);have C:=as_miss (se k) ⟨w.heap.size,0,none⟩ (.pointer none) (w.alloc (.cells #[.pointer none] 187)) (G.ext X).et (by simp);clear X G;go_enter Tryz.func54,Tryz.ntmps54;go_wp2_with (go_at_call 105;refine C.mono ?_;rintro e w' ⟨rfl,hX⟩);go_ret2;exact ⟨rfl,((Upd.refl _ _).alloc _).trans (hX.mono (fun _ _ h=> h))⟩
 | some (k,some n),h=>
  obtain ⟨h1,h2,b,e,hb⟩:=h;subst e;have hlt:=lt_of_blk hb;have X:=(Upd.refl none' w).alloc (.cells #[.pointer none] 187);have C:Calls Tryz.prog 105 #[.iface 187 (.pointer (some ⟨b,0,none⟩)),.iface 189 (.pointer (some ⟨w.heap.size,0,none⟩))] (w.alloc (.cells #[.pointer none] 187)) fun ev w'=> ev= .returned (.bool true)∧
   (w'.cell? ⟨w.heap.size,0,none⟩=some (.pointer (some ⟨b,0,none⟩))∧w'.cell? ⟨b,1,none⟩=some (.int .i64 n))∧Ext w w':=by
   refine (as_hit ⟨b,0,none⟩ ⟨w.heap.size,0,none⟩ (.pointer none) (w.alloc (.cells #[.pointer none] 187)) (G.ext X).et (by simp) (by simp)).mono ?_;rintro e w' ⟨rfl,rfl⟩;have Y:=(((X.alloc (.cells #[.pointer (some ⟨w.heap.size,0,none⟩)] 189)).alloc (.cells #[.pointer (some ⟨25,189,none⟩),.pointer (some ⟨(w.alloc (.cells #[.pointer none] 187)).heap.size,0,none⟩),.int .u64 150] 237)).alloc (.cells #[.pointer (some ⟨25,189,none⟩),.pointer (some ⟨(w.alloc (.cells #[.pointer none] 187)).heap.size,0,none⟩),.int .u64 150] 237)).alloc (.cells #[.pointer (some ⟨b,0,none⟩)] 187);have Z:=Y.setCell (p:=⟨w.heap.size,0,none⟩) (.inl (Nat.le_refl _)) (.pointer (some ⟨b,0,none⟩));refine ⟨rfl,⟨?_,?_⟩,Z⟩
   ·rw[cell_of_blk (blk_set (blk_alloc_lt (blk_alloc_lt (blk_alloc_lt (blk_alloc_lt (blk_alloc w (.cells #[.pointer none] 187)) _) _) _) _) 0 _)];rfl
   ·rw[cell_of_blk (Ext.blk Z hb)];rfl
  clear X G hb hv;go_enter Tryz.func54,Tryz.ntmps54;go_wp2_with (go_at_call 105;refine C.mono ?_;rintro e w' ⟨rfl,⟨hc0,hc1⟩,hX⟩);go_ret2;exact ⟨rfl,hX⟩
theorem is0_any(G:Genv B se w){x:EV}(hv:ErrIs se w v x)(c:Int):
 Calls Tryz.prog 12 #[v,.int .i64 c] w fun e w'=> e= .returned (.bool (codeOf x==c && (!placed x || placeOf x==0)))∧Ext w w':=by
 have C1:=at_any G hv;have C2:∀w1,Ext w w1→_:=fun w1 (h:Ext w w1)=> code_any (G.ext h) (hv.ext h);have H2:=ZA C2;clear C2 G hv;generalize hp:placed x=p at*;generalize hq:placeOf x=q at*;generalize hr:codeOf x=r at*;clear hp hq hr;cases h1:(r==c) <;> cases p <;> cases h2:(q==0)
 all_goals
  go_enter Tryz.func12,Tryz.ntmps12;go_wp2_with (first | (go_at_call 54;refine C1.mono ?_;rintro e w1 ⟨rfl,hX1⟩) | (go_at_call 55;refine (H2.o _ (by assumption)).mono ?_;rintro e w2 ⟨rfl,hX2⟩));go_ret;exact ⟨by simp,Upd.trans (by assumption) (Upd.mono (by assumption) (fun _ _ h=> h))⟩
end Go.Proofs.YtnkcfkjeeennmaaGreatDoor
