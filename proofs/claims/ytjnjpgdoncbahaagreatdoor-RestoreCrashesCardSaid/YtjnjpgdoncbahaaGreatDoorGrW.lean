/- What a growth holds in memory: a builder, edges, tiles that are whole, what was touched. Plain lemmas on memory. Operations on integers, strings and constants whose value is told by an equation. Nothing of the program. text.Base64 by contract. -/
import Derived.Test.YtjnjpgdoncbahaaGreatDoorEmitAdd
import Derived.Test.YtjnjpgdoncbahaaGreatDoorTileH
import Derived.Test.YtjnjpgdoncbahaaGreatDoorCode
import Derived.Laws.BitsAllLaws
import Derived.Test.YtjnjpgdoncbahaaGreatDoorTree
import Derived.Test.YtjnjpgdoncbahaaGreatDoorShelf
namespace Go.Proofs.YtjnjpgdoncbahaaGreatDoor
open Go.RowKit Go.Lib
set_option maxRecDepth 20000
set_option maxHeartbeats 4000000
variable {d:TypeDesc}{dv' v v':Value}{ix x y:Operand}{α:Type}
abbrev nilS:Value:= .slice none 0 0
structure LaidD where
 k:Nat
 i:Nat
 wd:Nat
 hs:List HB
 v:Value
def laidC(x:LaidD):List Value:= [.int .u8 x.k,.int .u64 x.i,.int .i64 x.wd,x.v]
def laidCs(l:List LaidD):List Value:=(l.map laidC).flatten
structure GrV where
 bb:Nat
 lv:Value
 ev:Value
 dv:Value
 tv:Value
 vs:List Value
 dvs:List Value
structure GrD where
 n:Nat
 l:List HB
 es:List (List HB)
 ls:List (List LaidD)
 ts:List Bool
structure GrAt (B:Nat) (w:World) (gb:Nat) (V:GrV) (D:GrD):Prop where
 low:B≤gb
 blk:w.heap[gb]? =some (.cells #[.pointer (some ⟨V.bb,0,none⟩),V.ev,V.dv,V.tv] 153 (0,0))
 bld:BldAt B w V.bb V.lv D.n D.l
 er:w.ownsRow B 113 1 V.ev D.es.length V.vs
 ee:∀k,w.ownsRow B 33 32 (V.vs.getD k nilS) (D.es.getD k []).length (hcells (D.es.getD k []))
 dr:w.ownsRow B 157 1 V.dv D.ls.length V.dvs
 de:∀k,w.ownsRow B 160 4 (V.dvs.getD k nilS) (D.ls.getD k []).length (laidCs (D.ls.getD k []))
 lh:∀k,∀x∈D.ls.getD k [],w.ownsRow B 33 32 x.v x.hs.length (hcells x.hs)
 tr:w.ownsRow B 4 1 V.tv D.ts.length (D.ts.map Value.bool)
 len:D.ls.length=D.ts.length
 ape:∀j k g,j≠k→(V.vs.getD j nilS).ownBlock=some g→(V.vs.getD k nilS).ownBlock≠some g
 apl:∀k g,V.lv.ownBlock=some g→(V.vs.getD k nilS).ownBlock≠some g
 aph:∀k,∀x∈D.ls.getD k [],∀g,x.v.ownBlock=some g→V.lv.ownBlock≠some g∧∀j,(V.vs.getD j nilS).ownBlock≠some g
 apd:∀j k g,j≠k→(V.dvs.getD j nilS).ownBlock=some g→(V.dvs.getD k nilS).ownBlock≠some g
def TyIn(S:Nat→Prop)(w:World)(T:TypeId):Prop:=∀g,S g→∃c f,w.heap[g]? =some (.cells c T f)
theorem own_ty{S:Nat→Prop}{w w':World}{T:TypeId}{B e size n:Nat}{xs:List Value}(h:w.ownsRow B e size v n xs)(u:Upd S w w')(hS:TyIn S w T)(hne:e≠T):w'.ownsRow B e size v n xs:=
 ownsRow_upd h u (fun g hg hs=> by obtain ⟨c,f,hc⟩:=hS g hs;exact rowNe h hc hne g hg rfl)
theorem blk_ty{S:Nat→Prop}{w w':World}{T:TypeId}{b:Nat}{cs:Array Value}{t:TypeId}{f:Nat×Nat}(h:w.heap[b]? =some (.cells cs t f))(u:Upd S w w')(hS:TyIn S w T)(hne:t≠T):w'.heap[b]? =some (.cells cs t f):=
 u.blk h (fun hs=> by obtain ⟨c,f',hc⟩:=hS b hs;exact tyNe h hc hne rfl)
theorem tyIn_one{w:World}{g:Nat}{c:Array Value}{T:TypeId}{f:Nat×Nat}(h:w.heap[g]? =some (.cells c T f)):TyIn (one g) w T:=fun k hk=> by have e:k=g:=hk;subst e;exact ⟨_,_,h⟩
theorem tyIn_row{w:World}{B e size n:Nat}{xs:List Value}(h:w.ownsRow B e size v n xs):TyIn (fun g=> v.ownBlock=some g) w e:=fun g hg=> by obtain ⟨c,hc⟩:=rowT h hg;exact ⟨c,_,hc⟩
theorem row_set{w:World}{B e n g c:Nat}{xs:List Value}(h:w.ownsRow B e 1 (.slice (some ⟨g,0,none⟩) n c) n xs)(k:Nat)(_hk:k < n)(v:Value):(w.setCell ⟨g,k,none⟩ v).ownsRow B e 1 (.slice (some ⟨g,0,none⟩) n c) n (xs.set k v):=by
 have hl:=h.1;rcases h.2 with ⟨hv,_⟩ | ⟨g',cap,cur,hv,hb,hg,hnc,hcm,hcs,ht⟩
 ·cases hv
 ·simp only[Value.slice.injEq,Option.some.injEq,Addr.mk.injEq,true_and,and_true] at hv;obtain ⟨rfl,rfl⟩:=hv;refine ⟨by rw[List.length_set];exact hl,.inr ⟨g,c,_,rfl,hb,blk_set hg k v,hnc,hcm,by simpa using hcs,?_⟩⟩;rw[←ht];simp[List.take_set]
def TysIn(S:Nat→Prop)(w:World)(Ts:List TypeId):Prop:=∀g,g < w.heap.size→S g→∃c T f,T∈Ts∧w.heap[g]? =some (.cells c T f)
theorem own_tys{S:Nat→Prop}{w w':World}{Ts:List TypeId}{B e size n:Nat}{xs:List Value}(h:w.ownsRow B e size v n xs)(u:Upd S w w')(hS:TysIn S w Ts)(hne:e∉Ts):w'.ownsRow B e size v n xs:=
 ownsRow_upd h u (fun g hg hs=> by obtain ⟨c,T,f,hT,hc⟩:=hS g (h.lt g hg).2 hs;exact rowNe h hc (fun e=> hne (e▸hT)) g hg rfl)
theorem blk_tys{S:Nat→Prop}{w w':World}{Ts:List TypeId}{b:Nat}{cs:Array Value}{t:TypeId}{f:Nat×Nat}(h:w.heap[b]? =some (.cells cs t f))(u:Upd S w w')(hS:TysIn S w Ts)(hne:t∉Ts):w'.heap[b]? =some (.cells cs t f):=
 u.blk h (fun hs=> by obtain ⟨c,T,f',hT,hc⟩:=hS b (lt_of_blk h) hs;exact tyNe h hc (fun e=> hne (e▸hT)) rfl)
theorem tys_none{w:World}:TysIn none' w []:=fun _ _ h=> h.elim
theorem BldAt.tys{S:Nat→Prop}{w w':World}{Ts:List TypeId}{B b n:Nat}{lv:Value}{l:List HB}(h:BldAt B w b lv n l)(u:Upd S w w')(hS:TysIn S w Ts)(h1:216∉Ts)(h2:33∉Ts):BldAt B w' b lv n l:=
 ⟨blk_tys h.blk u hS h1,own_tys h.row u hS h2,h.lo⟩
section
variable {B gb:Nat} {w w':World} {V:GrV} {D:GrD} {S:Nat→Prop} {Ts:List TypeId}
theorem GrAt.tys(h:GrAt B w gb V D)(u:Upd S w w')(hS:TysIn S w Ts)(h1:153∉Ts)(h2:216∉Ts)(h3:33∉Ts)(h4:113∉Ts)(h5:157∉Ts)(h6:160∉Ts)(h7:4∉Ts):GrAt B w' gb V D:=
 ⟨h.low,blk_tys h.blk u hS h1,h.bld.tys u hS h2 h3,own_tys h.er u hS h4,fun k=> own_tys (h.ee k) u hS h3,own_tys h.dr u hS h5,fun k=> own_tys (h.de k) u hS h6,fun k x hx=> own_tys (h.lh k x hx) u hS h3,own_tys h.tr u hS h7,h.len,h.ape,h.apl,h.aph,h.apd⟩
theorem GrAt.ext(h:GrAt B w gb V D)(u:Ext w w'):GrAt B w' gb V D:=h.tys u tys_none (by simp) (by simp) (by simp) (by simp) (by simp) (by simp) (by simp)
theorem GrAt.add{lv':Value}{n':Nat}{l':List HB}(h:GrAt B w gb V D)(u:Upd (fpE V.bb V.lv) w w')(hb:BldAt B w' V.bb lv' n' l')(hat:∀g,lv'.ownBlock=some g→V.lv.ownBlock=some g∨w.heap.size≤g):
 GrAt B w' gb {V with lv:=lv'} {D with n:=n',l:=l'}:=by
 have hS:TysIn (fpE V.bb V.lv) w [216,33]:=fun g _ hg=> by
  rcases hg with e | e
  ·have e2:g=V.bb:=e;subst e2;exact ⟨_,_,_,by simp,h.bld.blk⟩
  ·obtain ⟨c,hc⟩:=rowT h.bld.row e;exact ⟨_,_,_,by simp,hc⟩
 have hrow:∀{v:Value} {n:Nat} {xs:List Value},w.ownsRow B 33 32 v n xs→(∀g,v.ownBlock=some g→V.lv.ownBlock≠some g)→w'.ownsRow B 33 32 v n xs:=fun hr hn=>
  ownsRow_upd hr u (fun g hg hs=> by
   rcases hs with e | e
   ·have e2:g=V.bb:=e;exact rowNe hr h.bld.blk (by decide) g hg e2
   ·exact hn g hg e)
 refine ⟨h.low,blk_tys h.blk u hS (by decide),hb,own_tys h.er u hS (by decide),fun k=> hrow (h.ee k) (fun g hg e=> h.apl k g e hg),own_tys h.dr u hS (by decide),fun k=> own_tys (h.de k) u hS (by decide),fun k x hx=> hrow (h.lh k x hx) (fun g hg=> (h.aph k x hx g hg).1),own_tys h.tr u hS (by decide),h.len,h.ape,fun k g hg e=> ?_,fun k x hx g hg=> ⟨fun e=> ?_,(h.aph k x hx g hg).2⟩,h.apd⟩
 ·rcases hat g hg with h1 | h1
  ·exact h.apl k g h1 e
  ·have:=((h.ee k).lt g e).2;omega
 ·rcases hat g e with h1 | h1
  ·exact (h.aph k x hx g hg).1 h1
  ·have:=((h.lh k x hx).lt g hg).2;omega
theorem getD_snoc(l:List α)(x:α)(k:Nat):(l++ [x]).getD k x=l.getD k x:=by
 rw[List.getD_eq_getElem?_getD,List.getD_eq_getElem?_getD];rcases Nat.lt_or_ge k l.length with h | h
 ·rw[List.getElem?_append_left h]
 ·rw[List.getElem?_append_right h,List.getElem?_eq_none h];cases hk:k - l.length with
  | zero=> simp
  | succ m=> simp
theorem GrAt.moreE{ev':Value}(h:GrAt B w gb V D)(u:Upd S w w')(hS:TysIn S w [153,113])(hb:w'.heap[gb]? =some (.cells #[.pointer (some ⟨V.bb,0,none⟩),ev',V.dv,V.tv] 153 (0,0)))
 (hr:w'.ownsRow B 113 1 ev' (D.es.length+1) (V.vs++ [nilS])):GrAt B w' gb {V with ev:=ev',vs:=V.vs++ [nilS]} {D with es:=D.es++ [[]]}:=by
 refine ⟨h.low,hb,h.bld.tys u hS (by decide) (by decide),by simpa using hr,fun k=> ?_,own_tys h.dr u hS (by decide),fun k=> own_tys (h.de k) u hS (by decide),fun k x hx=> own_tys (h.lh k x hx) u hS (by decide),own_tys h.tr u hS (by decide),h.len,fun j k g hjk hg=> ?_,fun k g hg=> ?_,fun k x hx g hg=> ⟨(h.aph k x hx g hg).1,fun j=> ?_⟩,h.apd⟩
 ·show w'.ownsRow B 33 32 ((V.vs++ [nilS]).getD k nilS) ((D.es++ [[]]).getD k []).length (hcells ((D.es++ [[]]).getD k []));rw[getD_snoc,getD_snoc];exact own_tys (h.ee k) u hS (by decide)
 ·have hg':((V.vs++ [nilS]).getD j nilS).ownBlock=some g:=hg;show ((V.vs++ [nilS]).getD k nilS).ownBlock≠some g;rw[getD_snoc] at hg'⊢;exact h.ape j k g hjk hg'
 ·show ((V.vs++ [nilS]).getD k nilS).ownBlock≠some g;rw[getD_snoc];exact h.apl k g hg
 ·show ((V.vs++ [nilS]).getD j nilS).ownBlock≠some g;rw[getD_snoc];exact (h.aph k x hx g hg).2 j
theorem GrAt.moreT{tv':Value}(h:GrAt B w gb V D)(u:Upd S w w')(hS:TysIn S w [153,157,4])(hb:w'.heap[gb]? =some (.cells #[.pointer (some ⟨V.bb,0,none⟩),V.ev,dv',tv'] 153 (0,0)))
 (hr:w'.ownsRow B 157 1 dv' (D.ls.length+1) (V.dvs++ [nilS])) (ht:w'.ownsRow B 4 1 tv' (D.ts.length+1) (D.ts.map Value.bool++ [.bool false])):
 GrAt B w' gb {V with dv:=dv',tv:=tv',dvs:=V.dvs++ [nilS]} {D with ls:=D.ls++ [[]],ts:=D.ts++ [false]}:=by
 refine ⟨h.low,hb,h.bld.tys u hS (by decide) (by decide),own_tys h.er u hS (by decide),fun k=> own_tys (h.ee k) u hS (by decide),by simpa using hr,fun k=> ?_,fun k x hx=> ?_,by simpa using ht,by simp[h.len],h.ape,h.apl,fun k x hx g hg=> ?_,fun j k g hjk hg=> ?_⟩
 ·show w'.ownsRow B 160 4 ((V.dvs++ [nilS]).getD k nilS) ((D.ls++ [[]]).getD k []).length (laidCs ((D.ls++ [[]]).getD k []));rw[getD_snoc,getD_snoc];exact own_tys (h.de k) u hS (by decide)
 ·have hx':x∈(D.ls++ [[]]).getD k []:=hx;rw[getD_snoc] at hx';exact own_tys (h.lh k x hx') u hS (by decide)
 ·have hx':x∈(D.ls++ [[]]).getD k []:=hx;rw[getD_snoc] at hx';exact h.aph k x hx' g hg
 ·have hg':((V.dvs++ [nilS]).getD j nilS).ownBlock=some g:=hg;show ((V.dvs++ [nilS]).getD k nilS).ownBlock≠some g;rw[getD_snoc] at hg'⊢;exact h.apd j k g hjk hg'
theorem GrAt.touch{ts':List Bool}(h:GrAt B w gb V D)(u:Upd S w w')(hS:TysIn S w [4])(hl:ts'.length=D.ts.length)(ht:w'.ownsRow B 4 1 V.tv D.ts.length (ts'.map Value.bool)):GrAt B w' gb V {D with ts:=ts'}:=
 ⟨h.low,blk_tys h.blk u hS (by decide),h.bld.tys u hS (by decide) (by decide),own_tys h.er u hS (by decide),fun k=> own_tys (h.ee k) u hS (by decide),own_tys h.dr u hS (by decide),fun k=> own_tys (h.de k) u hS (by decide),fun k x hx=> own_tys (h.lh k x hx) u hS (by decide),by rw[hl];exact ht,by rw[hl];exact h.len,h.ape,h.apl,h.aph,h.apd⟩
theorem getD_put(l:List α)(k j:Nat)(x d:α)(hk:k < l.length):(l.set k x).getD j d=if j=k then x else l.getD j d:=by
 rw[List.getD_eq_getElem?_getD,List.getD_eq_getElem?_getD,List.getElem?_set];by_cases h:k=j
 ·subst h;simp[hk]
 ·rw[if_neg h,if_neg (fun e=> h e.symm)]
theorem GrAt.pushE{k:Nat}{x:HB}(h:GrAt B w gb V D)(hk:k < D.es.length)(u:Upd S w w')(hS:∀g,g < w.heap.size→S g→(V.vs.getD k nilS).ownBlock=some g∨∃c f,w.heap[g]? =some (.cells c 113 f))
 (her:w'.ownsRow B 113 1 V.ev D.es.length (V.vs.set k v')) (hee:w'.ownsRow B 33 32 v' ((D.es.getD k []).length+1) (hcells (D.es.getD k []++ [x])))
 (hat:∀g,v'.ownBlock=some g→(V.vs.getD k nilS).ownBlock=some g∨w.heap.size≤g):GrAt B w' gb {V with vs:=V.vs.set k v'} {D with es:=D.es.set k (D.es.getD k []++ [x])}:=by
 have hkv:k < V.vs.length:=by have:=h.er.1;omega
 have hT:TysIn S w [33,113]:=fun g hgs hg=> by
  rcases hS g hgs hg with e | ⟨c,f,e⟩
  ·obtain ⟨c,hc⟩:=rowT (h.ee k) e;exact ⟨c,_,_,by simp,hc⟩
  ·exact ⟨c,_,f,by simp,e⟩
 have hrow:∀{v:Value} {n:Nat} {xs:List Value},w.ownsRow B 33 32 v n xs→(∀g,v.ownBlock=some g→(V.vs.getD k nilS).ownBlock≠some g)→w'.ownsRow B 33 32 v n xs:=fun hr hn=>
  ownsRow_upd hr u (fun g hg hs=> by
   rcases hS g (hr.lt g hg).2 hs with e | ⟨c,f,e⟩
   ·exact hn g hg e
   ·exact rowNe hr e (by decide) g hg rfl)
 have hapv:∀j g,j≠k→(V.vs.getD j nilS).ownBlock=some g→v'.ownBlock≠some g:=fun j g hj hg e=> by
  rcases hat g e with h1 | h1
  ·exact h.ape j k g hj hg h1
  ·have:=((h.ee j).lt g hg).2;omega
 refine ⟨h.low,blk_tys h.blk u hT (by decide),⟨blk_tys h.bld.blk u hT (by decide),hrow h.bld.row (fun g hg=> h.apl k g hg),h.bld.lo⟩,by simpa using her,fun j=> ?_,own_tys h.dr u hT (by decide),fun j=> own_tys (h.de j) u hT (by decide),fun j y hy=> hrow (h.lh j y hy) (fun g hg=> (h.aph j y hy g hg).2 k),own_tys h.tr u hT (by decide),h.len,fun i j g hij hg=> ?_,fun j g hg=> ?_,fun i y hy g hg=> ⟨(h.aph i y hy g hg).1,fun j=> ?_⟩,h.apd⟩
 ·show w'.ownsRow B 33 32 ((V.vs.set k v').getD j nilS) ((D.es.set k (D.es.getD k []++ [x])).getD j []).length (hcells ((D.es.set k (D.es.getD k []++ [x])).getD j []));rw[getD_put _ _ _ _ _ hkv,getD_put _ _ _ _ _ hk];by_cases hjk:j=k
  ·rw[if_pos hjk,if_pos hjk];simpa using hee
  ·rw[if_neg hjk,if_neg hjk];exact hrow (h.ee j) (fun g hg=> h.ape j k g hjk hg)
 ·have hg':((V.vs.set k v').getD i nilS).ownBlock=some g:=hg;show ((V.vs.set k v').getD j nilS).ownBlock≠some g;rw[getD_put _ _ _ _ _ hkv] at hg'⊢;by_cases hik:i=k
  ·rw[if_pos hik] at hg';rw[if_neg (fun e=> hij (hik.trans e.symm))];intro e;exact hapv j g (fun e2=> hij (hik.trans e2.symm)) e hg'
  ·rw[if_neg hik] at hg';by_cases hjk:j=k
   ·rw[if_pos hjk];exact hapv i g hik hg'
   ·rw[if_neg hjk];exact h.ape i j g hij hg'
 ·show ((V.vs.set k v').getD j nilS).ownBlock≠some g;rw[getD_put _ _ _ _ _ hkv];by_cases hjk:j=k
  ·rw[if_pos hjk];intro e;rcases hat g e with h1 | h1
   ·exact h.apl k g hg h1
   ·have:=(h.bld.row.lt g hg).2;omega
  ·rw[if_neg hjk];exact h.apl j g hg
 ·show ((V.vs.set k v').getD j nilS).ownBlock≠some g;rw[getD_put _ _ _ _ _ hkv];by_cases hjk:j=k
  ·rw[if_pos hjk];intro e;rcases hat g e with h1 | h1
   ·exact (h.aph i y hy g hg).2 k h1
   ·have:=((h.lh i y hy).lt g hg).2;omega
  ·rw[if_neg hjk];exact (h.aph i y hy g hg).2 j
theorem GrAt.full{k:Nat}{i wd:Nat}(h:GrAt B w gb V D)(hk:k < D.es.length)(hkl:k < D.ls.length)(u:Upd S w w')(hS:∀g,g < w.heap.size→S g→(V.dvs.getD k nilS).ownBlock=some g∨∃c T f,T∈ [113,157]∧w.heap[g]? =some (.cells c T f))
 (her:w'.ownsRow B 113 1 V.ev D.es.length (V.vs.set k nilS)) (hdr:w'.ownsRow B 157 1 V.dv D.ls.length (V.dvs.set k dv'))
 (hde:w'.ownsRow B 160 4 dv' ((D.ls.getD k []).length+1) (laidCs (D.ls.getD k []++ [⟨k,i,wd,D.es.getD k [],V.vs.getD k nilS⟩])))
 (hat:∀g,dv'.ownBlock=some g→(V.dvs.getD k nilS).ownBlock=some g∨w.heap.size≤g):
 GrAt B w' gb {V with vs:=V.vs.set k nilS,dvs:=V.dvs.set k dv'} {D with es:=D.es.set k [],ls:=D.ls.set k (D.ls.getD k []++ [⟨k,i,wd,D.es.getD k [],V.vs.getD k nilS⟩])}:=by
 have hkv:k < V.vs.length:=by have:=h.er.1;omega
 have hkd:k < V.dvs.length:=by have:=h.dr.1;omega
 have hT:TysIn S w [160,113,157]:=fun g hgs hg=> by
  rcases hS g hgs hg with e | ⟨c,T,f,hTT,e⟩
  ·obtain ⟨c,hc⟩:=rowT (h.de k) e;exact ⟨c,_,_,by simp,hc⟩
  ·exact ⟨c,T,f,List.mem_cons_of_mem _ hTT,e⟩
 have hrow:∀{v:Value} {n:Nat} {xs:List Value},w.ownsRow B 160 4 v n xs→(∀g,v.ownBlock=some g→(V.dvs.getD k nilS).ownBlock≠some g)→w'.ownsRow B 160 4 v n xs:=fun hr hn=>
  ownsRow_upd hr u (fun g hg hs=> by
   rcases hS g (hr.lt g hg).2 hs with e | ⟨c,T,f,hTT,e⟩
   ·exact hn g hg e
   ·exact rowNe hr e (fun e2=> absurd (e2▸hTT) (by decide)) g hg rfl)
 have hapv:∀j g,j≠k→(V.dvs.getD j nilS).ownBlock=some g→dv'.ownBlock≠some g:=fun j g hj hg e=> by
  rcases hat g e with h1 | h1
  ·exact h.apd j k g hj hg h1
  ·have:=((h.de j).lt g hg).2;omega
 have hvk:∀j g,((V.vs.set k nilS).getD j nilS).ownBlock=some g→j≠k∧(V.vs.getD j nilS).ownBlock=some g:=fun j g hg=> by
  rw[getD_put _ _ _ _ _ hkv] at hg;by_cases hjk:j=k
  ·rw[if_pos hjk] at hg;cases hg
  ·rw[if_neg hjk] at hg;exact ⟨hjk,hg⟩
 refine ⟨h.low,blk_tys h.blk u hT (by decide),h.bld.tys u hT (by decide) (by decide),by simpa using her,fun j=> ?_,by simpa using hdr,fun j=> ?_,fun j y hy=> ?_,own_tys h.tr u hT (by decide),by simpa using h.len,fun a j g hij hg=> ?_,fun j g hg e=> ?_,fun a y hy g hg=> ?_,fun a j g hij hg=> ?_⟩
 ·show w'.ownsRow B 33 32 ((V.vs.set k nilS).getD j nilS) ((D.es.set k []).getD j []).length (hcells ((D.es.set k []).getD j []));rw[getD_put _ _ _ _ _ hkv,getD_put _ _ _ _ _ hk];by_cases hjk:j=k
  ·rw[if_pos hjk,if_pos hjk];exact World.ownsRow_nil _ _ _ _
  ·rw[if_neg hjk,if_neg hjk];exact own_tys (h.ee j) u hT (by decide)
 ·show w'.ownsRow B 160 4 ((V.dvs.set k dv').getD j nilS) ((D.ls.set k (D.ls.getD k []++ [⟨k,i,wd,D.es.getD k [],V.vs.getD k nilS⟩])).getD j []).length (laidCs ((D.ls.set k (D.ls.getD k []++ [⟨k,i,wd,D.es.getD k [],V.vs.getD k nilS⟩])).getD j []));rw[getD_put _ _ _ _ _ hkd,getD_put _ _ _ _ _ hkl];by_cases hjk:j=k
  ·rw[if_pos hjk,if_pos hjk];simpa using hde
  ·rw[if_neg hjk,if_neg hjk];exact hrow (h.de j) (fun g hg=> h.apd j k g hjk hg)
 ·have hy':y∈(D.ls.set k (D.ls.getD k []++ [⟨k,i,wd,D.es.getD k [],V.vs.getD k nilS⟩])).getD j []:=hy;rw[getD_put _ _ _ _ _ hkl] at hy';by_cases hjk:j=k
  ·rw[if_pos hjk] at hy';rcases List.mem_append.1 hy' with h1 | h1
   ·exact own_tys (h.lh k y h1) u hT (by decide)
   ·rw[List.mem_singleton.1 h1];exact own_tys (h.ee k) u hT (by decide)
  ·rw[if_neg hjk] at hy';exact own_tys (h.lh j y hy') u hT (by decide)
 ·intro e;obtain ⟨h1,h2⟩:=hvk a g hg;obtain ⟨h3,h4⟩:=hvk j g e;exact h.ape a j g hij h2 h4
 ·obtain ⟨_,h2⟩:=hvk j g e;exact h.apl j g hg h2
 ·have hy':y∈(D.ls.set k (D.ls.getD k []++ [⟨k,i,wd,D.es.getD k [],V.vs.getD k nilS⟩])).getD a []:=hy;rw[getD_put _ _ _ _ _ hkl] at hy';have hold:∀b,y∈D.ls.getD b []→V.lv.ownBlock≠some g∧∀j,((V.vs.set k nilS).getD j nilS).ownBlock≠some g:=fun b hb=> ⟨(h.aph b y hb g hg).1,fun j e=> by obtain ⟨_,h2⟩:=hvk j g e;exact (h.aph b y hb g hg).2 j h2⟩
  by_cases hjk:a=k
  ·rw[if_pos hjk] at hy';rcases List.mem_append.1 hy' with h1 | h1
   ·exact hold k h1
   ·rw[List.mem_singleton.1 h1] at hg;refine ⟨fun e=> h.apl k g e hg,fun j e=> ?_⟩;obtain ⟨h2,h3⟩:=hvk j g e;exact h.ape j k g h2 h3 hg
  ·rw[if_neg hjk] at hy';exact hold a hy'
 ·have hg':((V.dvs.set k dv').getD a nilS).ownBlock=some g:=hg;show ((V.dvs.set k dv').getD j nilS).ownBlock≠some g;rw[getD_put _ _ _ _ _ hkd] at hg'⊢;by_cases hik:a=k
  ·rw[if_pos hik] at hg';rw[if_neg (fun e=> hij (hik.trans e.symm))];intro e;exact hapv j g (fun e2=> hij (hik.trans e2.symm)) e hg'
  ·rw[if_neg hik] at hg';by_cases hjk:j=k
   ·rw[if_pos hjk];exact hapv a g hik hg'
   ·rw[if_neg hjk];exact h.apd a j g hij hg'
end
section
variable {P:Program}
theorem run_orI{t:TypeId}(k:IntKind)(m n r:Int)(hr:bits .or k m n=r)(w:World):(do eqGuard .or t x y (.int k m) (.int k n);binOp .or t (.int k m) (.int k n):Sem Value).run P w= .ok (.int k r) w:=by subst hr;simp[eqGuard,go_sem]
theorem run_andI{t:TypeId}(k:IntKind)(m n r:Int)(hr:bits .and k m n=r)(w:World):(do eqGuard .and t x y (.int k m) (.int k n);binOp .and t (.int k m) (.int k n):Sem Value).run P w= .ok (.int k r) w:=by subst hr;simp[eqGuard,go_sem]
theorem run_shlU{t:TypeId}(yk:IntKind)(m n r:Nat)(hn:n≤64)(hr:m*2 ^ n=r)(h64:r < 18446744073709551616)(w:World):(do eqGuard .shl t x y (.int .u64 m) (.int yk n);binOp .shl t (.int .u64 m) (.int yk n):Sem Value).run P w= .ok (.int .u64 r) w:=by
 have e:IntKind.u64.wrap ((m:Int)*2 ^ ((n:Int)).toNat)=r:=by
  rw[IntKind.wrap_u64,←hr];have:(m:Int)*2 ^ ((n:Int)).toNat=((m*2 ^ n:Nat):Int):=by simp
  rw[this,hr];omega
 simp only[eqGuard_shl,binOp_shl,Sem.run_bind,Sem.run_pure,Result.andThen_ok];rw[shift_shl_u64 yk m n (by omega) (by omega),e];rfl
theorem run_shrU{t:TypeId}(yk:IntKind)(m n r:Nat)(hn:n≤64)(hr:m / 2 ^ n=r)(w:World):(do eqGuard .shr t x y (.int .u64 m) (.int yk n);binOp .shr t (.int .u64 m) (.int yk n):Sem Value).run P w= .ok (.int .u64 r) w:=by
 have e:(m:Int) / 2 ^ ((n:Int)).toNat=(r:Nat):=by rw[←hr];simp
 simp only[eqGuard_shr,binOp_shr,Sem.run_bind,Sem.run_pure,Result.andThen_ok];rw[shift_shr_u64 yk m n (by omega) (by omega),e];rfl
theorem run_shlB{t:TypeId}(yk:IntKind)(m n r:Nat)(hn:n≤8)(hr:m*2 ^ n=r)(h8:r < 256)(w:World):(do eqGuard .shl t x y (.int .u8 m) (.int yk n);binOp .shl t (.int .u8 m) (.int yk n):Sem Value).run P w= .ok (.int .u8 r) w:=by
 have e:IntKind.u8.wrap ((m:Int)*2 ^ ((n:Int)).toNat)=r:=by
  rw[IntKind.wrap_u8',←hr];have:(m:Int)*2 ^ ((n:Int)).toNat=((m*2 ^ n:Nat):Int):=by simp
  rw[this,hr];omega
 simp only[eqGuard_shl,binOp_shl,Sem.run_bind,Sem.run_pure,Result.andThen_ok];rw[shift_shl_u8 yk m n (by omega) (by omega),e];rfl
theorem run_shrB{t:TypeId}(yk:IntKind)(m n r:Nat)(hn:n≤8)(hr:m / 2 ^ n=r)(w:World):(do eqGuard .shr t x y (.int .u8 m) (.int yk n);binOp .shr t (.int .u8 m) (.int yk n):Sem Value).run P w= .ok (.int .u8 r) w:=by
 have e:(m:Int) / 2 ^ ((n:Int)).toNat=(r:Nat):=by rw[←hr];simp
 simp only[eqGuard_shr,binOp_shr,Sem.run_bind,Sem.run_pure,Result.andThen_ok];rw[shift_shr_u8 yk m n (by omega) (by omega),e];rfl
variable {o:Oper} {a:Act}
theorem run_strIx(w:World){t:TypeId}(ho:o.op= .index t x ix)(s:List UInt8)(k:Nat)(kk:IntKind)(hx:a.eval x= .string (str s))(hi:a.eval ix= .int kk k)(hk:k < s.length)(hu:P.underlying t=some .string):(execOp a.eval o).run P w= .ok (.value (u8v (s.getD k 0))) w:=by
 have h1:(0:Int)≤(k:Int)∧(k:Int) < (str s).size:=by rw[str_size];omega
 have e:((str s)[((k:Int)).toNat]'(by rw[str_size];simpa using hk))=s.getD k 0:=by simp[List.getD_eq_getElem?_getD,List.getElem?_eq_getElem hk];rfl
 have hr:=run_index_string (P:=P) w t (str s) kk k hu;rw[dif_pos h1] at hr;simp only[execOp,ho,hx,hi,Sem.run_bind,hr,Result.andThen_ok];rw[e];rfl
theorem run_arrIx(w:World){t:TypeId}(ho:o.op= .index t x ix)(cs:Array Value)(k len:Nat)(kk:IntKind)(e:TypeId)(v:Value)(hx:a.eval x= .agg cs)(hi:a.eval ix= .int kk k)(hk:k < len)(hu:P.underlying t=some (.array len e))(hue:P.underlying e=some d)(hd:aggD d=false)(hs:(P.info? e).map (·.size)=some 1)(hv:cs[k]? =some v):
 (execOp a.eval o).run P w= .ok (.value v) w:=by
 cases hq:P.info? e with
 | none=> simp[hq] at hs
 | some i=>
  have his:i.size=1:=by simpa[hq] using hs
  have hk2:(0:Int)≤(k:Int)∧(k:Int) < len:=by omega
  have hagg:(isAgg e).run P w= .ok false w:=by unfold isAgg;rw[Sem.run_bind,run_underlying hue w];cases d <;> simp_all [aggD]
  simp[execOp,ho,hx,hi,Instr.index,asIntOf,run_underlying hu,sizeOf,typeInfo,hq,his,hk2,hk,part,Sem.run_bind,hagg,hv]
theorem run_arrAgg(w:World){t:TypeId}(ho:o.op= .index t x ix)(cs:Array Value)(k len sz:Nat)(kk:IntKind)(e:TypeId)(hx:a.eval x= .agg cs)(hi:a.eval ix= .int kk k)(hk:k < len)(hu:P.underlying t=some (.array len e))(hue:P.underlying e=some d)(hd:aggD d=true)(hs:(P.info? e).map (·.size)=some sz):
 (execOp a.eval o).run P w= .ok (.value (.agg (cs.extract (k*sz) (k*sz+sz)))) w:=by
 cases hq:P.info? e with
 | none=> simp[hq] at hs
 | some i=>
  have his:i.size=sz:=by simpa[hq] using hs
  have hk2:(0:Int)≤(k:Int)∧(k:Int) < len:=by omega
  have hagg:(isAgg e).run P w= .ok true w:=by unfold isAgg;rw[Sem.run_bind,run_underlying hue w];cases d <;> simp_all [aggD]
  simp[execOp,ho,hx,hi,Instr.index,asIntOf,run_underlying hu,sizeOf,typeInfo,hq,his,hk2,hk,part,Sem.run_bind,hagg]
theorem run_bop{op:BinOp}{ty tr:TypeId}(w:World)(ho:o.op= .binOp op ty x y tr)(vx vy v:Value)(hx:a.eval x=vx)(hy:a.eval y=vy)
 (hr:(do eqGuard op ty x y vx vy;binOp op ty vx vy:Sem Value).run P w= .ok v w):(execOp a.eval o).run P w= .ok (.value v) w:=by
 simp only[execOp,ho,hx,hy];rw[Sem.run_bind,hr];rfl
variable {ops:Array Oper} {rest:List Oper} {Q:Exit→Act→World→Prop}
theorem run_val{w w':World}(h:(execOp a.eval o).run P w= .ok (.value v) w')(e:v=v'):(execOp a.eval o).run P w= .ok (.value v') w':=e▸h
theorem wpList_run{w w':World}(hgd:o.guard=none)(hr:(execOp a.eval o).run P w= .ok (.value v) w')(h:wpList P ops Q rest (a.put o.dst v) w'):wpList P ops Q (o::rest) a w:=by refine wpList_plain hgd fun K hK=> ?_;unfold Oper.wp;rw[hr];exact hK _ _ h
end
def BwRel(B b:Nat)(all:List UInt8)(w0:World)(sv:Value)(wr:World):Prop:=
 ∃out rest:List UInt8,sv= .string (str rest)∧rest.length % 3=2∧out++b64 rest=b64 all∧SB B b out wr∧Below B w0 wr
theorem sb_fresh(w:World):SB w.heap.size w.heap.size [] (w.alloc (.cells #[.pointer none,.slice none 0 0] 226)):=
 .inl ⟨Nat.le_refl _,.slice none 0 0,blk_alloc _ _,World.ownsRow_nil _ _ _ _,by simp[Value.ownBlock]⟩
def fourL(N:Nat):List UInt8:= [lt64 (N / 262144),lt64 (N / 4096 % 64),lt64 (N / 64 % 64),lt64 (N % 64)]
def BiRel(B b N:Nat)(out:List UInt8)(w0:World)(iv:Value)(wr:World):Prop:=
 ∃k:Nat,k≤4∧iv= .int .i64 k∧SB B b (out++(fourL N).take k) wr∧Below B w0 wr
theorem SB.step{B b:Nat}{bs:List UInt8}{x:UInt8}{w:World}{p:Value}(hp:p= .pointer (some ⟨b,0,none⟩))(h:Lib.BuilderAt 226 5 B b p (bs.map u8v++ [u8v x]) w):SB B b (bs++ [x]) w:=by subst hp;refine .inr ?_;simpa using h
theorem and63u(V:Nat)(hV:V < 18446744073709551616):bits .and .u64 (V:Int) 63=((V % 64:Nat):Int):=by have:=u64_and_nat V 63 hV (by decide);rw[and63] at this;exact this
theorem lettersL_len:lettersL.length=64:=rfl
def strLen:Value→Nat
 | .string s=> s.size
 | _=> 0
theorem base64_any(w:World)(s:List UInt8)(hs:s.length≤1048576)(hs3:s.length % 3=2):Calls Tryz.prog 235 #[.string (str s)] w fun e w'=> e= .returned (.string (str (b64 s)))∧Ext w w':=by
 have HB:=ZA (sb_fresh w);have HW:=ZA (((Upd.refl none' w).alloc (.cells #[.pointer none,.slice none 0 0] 226)));have HS:=ZA hs;clear hs;go_enter Tryz.func235,Tryz.ntmps235;go_wp2_with fail;generalize World.alloc w (.cells #[.pointer none,.slice none 0 0] 226)=W at*;go_loopw [0] (fun sv wr=> BwRel w.heap.size w.heap.size s W sv wr) (fun sv _=> strLen sv);case atStart=> exact ⟨[],s,rfl,hs3,rfl,HB.o,Below.refl _ _⟩
 case round=>
  obtain ⟨out,rest,rfl,hr3,hor,hsb,hbl⟩:=hrel;have HOR:=ZA hor;have HSB:=ZA hsb;have HBL:=ZA hbl;clear hor hsb hbl;have hsz:(str rest).size=rest.length:=str_size rest;by_cases h3:3≤rest.length
  ·have h3i:(3:Int)≤rest.length:=by omega
   obtain ⟨a,b,c,r,rfl⟩:∃a b c r,rest=a::b::c::r:=by
    match rest,h3 with
    | a::b::c::r,_=> exact ⟨a,b,c,r,rfl⟩
   have hal:=a.toNat_lt;have hbl:=b.toNat_lt;have hcl:=c.toNat_lt;obtain ⟨X,hX⟩:∃X:Nat,X=a.toNat*65536:=⟨_,rfl⟩;obtain ⟨Y,hY⟩:∃Y:Nat,Y=b.toNat*256:=⟨_,rfl⟩;obtain ⟨N,hN⟩:∃N:Nat,N=n24 a b c:=⟨_,rfl⟩;have hN2:=n24_lt a b c;have HXY:=ZA (show bits .or .u64 (X:Int) (Y:Int)=((X ||| Y:Nat):Int) from u64_or_nat X Y (by omega) (by omega));obtain ⟨Z,hZ⟩:∃Z:Nat,Z=X ||| Y:=⟨_,rfl⟩;have hZ2:Z < 16777216:=by rw[hZ,hX,hY,nat_join 16 (a.toNat*65536) (b.toNat*256) (by omega) (by omega)];omega
   rw[←hZ] at HXY;have HN:=ZA (show bits .or .u64 (Z:Int) (c.toNat:Int)=(N:Int) by rw[u64_or_nat Z c.toNat (by omega) (by omega),hN,hZ,hX,hY,n24_shl])
   have HNE:=ZA hN;have HNL:=ZA (show N < 16777216 by rw[hN];exact hN2);have HX:=ZA hX;have HY:=ZA hY;have HR:Hid (b64 (a::b::c::r)=lt64 (N / 262144)::lt64 (N / 4096 % 64)::lt64 (N / 64 % 64)::lt64 (N % 64)::b64 r):=ZA (by rw[hN];rfl);have hwa:IntKind.u64.wrap (a.toNat:Int)=(a.toNat:Int):=by rw[IntKind.wrap_u64];omega
   have hwb:IntKind.u64.wrap (b.toNat:Int)=(b.toNat:Int):=by rw[IntKind.wrap_u64];omega
   have hwc:IntKind.u64.wrap (c.toNat:Int)=(c.toNat:Int):=by rw[IntKind.wrap_u64];omega
   clear hN2 hN hZ hX hY hZ2;go_wp2_with fail;refine region_inv_tail 13 (fun w'=> w'=wr.drew) (by kernel_rfl) (by kernel_rfl) (by kernel_rfl) (by kernel_rfl) (by kernel_rfl) (by kernel_rfl) rfl ?_;simp only[List.take_succ_cons,List.take_zero,List.drop_succ_cons,List.drop_zero];refine inv_move rfl rfl (.string (str (a::b::c::r))) rfl ?_;refine inv_norm (by go_simp;exact rfl) ?_;refine inv_pure (v:=u8v a) rfl (fun w7=> run_strIx w7 rfl (a::b::c::r) 0 .i64 rfl rfl (by simp) Tryz.underlying9) ?_;refine inv_norm (by go_simp;exact rfl) ?_;refine inv_pure (v:= .int .u64 a.toNat) rfl (fun w7=> by go_simp) ?_;refine inv_norm (by go_simp;exact rfl) ?_;refine inv_bin rfl rfl _ _ (.int .u64 X) rfl rfl (run_shlU .u64 a.toNat 16 X (by decide) HX.o.symm (by have:=HX.o;omega)) ?_;refine inv_norm (by go_simp;exact rfl) ?_;refine inv_move rfl rfl (.string (str (a::b::c::r))) rfl ?_;refine inv_norm (by go_simp;exact rfl) ?_;refine inv_pure (v:=u8v b) rfl (fun w7=> run_strIx w7 rfl (a::b::c::r) 1 .i64 rfl rfl (by simp) Tryz.underlying9) ?_;refine inv_norm (by go_simp;exact rfl) ?_;refine inv_pure (v:= .int .u64 b.toNat) rfl (fun w7=> by go_simp) ?_;refine inv_norm (by go_simp;exact rfl) ?_;refine inv_bin rfl rfl _ _ (.int .u64 Y) rfl rfl (run_shlU .u64 b.toNat 8 Y (by decide) HY.o.symm (by have:=HY.o;omega)) ?_;refine inv_norm (by go_simp;exact rfl) ?_;refine inv_bin rfl rfl _ _ (.int .u64 Z) rfl rfl (run_orI .u64 X Y Z HXY.o) ?_;refine inv_norm (by go_simp;exact rfl) ?_;refine inv_move rfl rfl (.string (str (a::b::c::r))) rfl ?_;refine inv_norm (by go_simp;exact rfl) ?_;refine inv_pure (v:=u8v c) rfl (fun w7=> run_strIx w7 rfl (a::b::c::r) 2 .i64 rfl rfl (by simp) Tryz.underlying9) ?_;refine inv_norm (by go_simp;exact rfl) ?_;refine inv_pure (v:= .int .u64 c.toNat) rfl (fun w7=> by go_simp) ?_;refine inv_norm (by go_simp;exact rfl) ?_;refine inv_bin rfl rfl _ _ (.int .u64 N) rfl rfl (run_orI .u64 Z c.toNat N HN.o) ?_;refine inv_norm (by go_simp;exact rfl) ?_;refine inv_nil ?_;rintro w5 rfl;have HWR:Hid (SB w.heap.size w.heap.size out wr.drew):=ZA HSB.o;have HBL2:Hid (Below w.heap.size W wr.drew):=ZA (HBL.o.trans ⟨rfl,rfl,rfl,Nat.le_refl _,fun _ _=> rfl⟩);generalize wr.drew=W2 at*;have hLO:=ZA (show out.length≤1398108 by have h:=congrArg List.length HOR.o;rw[List.length_append,b64_len s] at h;have:=HS.o;omega)
   go_wp2_with fail;go_loopw [24] (fun iv wr=> BiRel w.heap.size w.heap.size N out W iv wr) (fun iv _=> 4 - (RowKit.intOf iv).toNat);case atStart=> exact ⟨0,by omega,rfl,by simpa using HWR.o,HBL2.o⟩
   case round=>
    obtain ⟨k,hk,rfl,hsb,hbl⟩:=hrel;have HSB4:=ZA hsb;have HBL4:=ZA hbl;clear hsb hbl;have hll:=lettersL_len;by_cases hk4:k < 4
    ·obtain ⟨sh,hsh⟩:∃sh:Nat,sh=18 - 6*k:=⟨_,rfl⟩;obtain ⟨V,hV⟩:∃V:Nat,N / 2 ^ sh=V:=⟨_,rfl⟩;have hnl:=HNL.o;have hVN:V≤N:=by rw[←hV];exact Nat.div_le_self _ _
     have hand:bits .and .u64 (V:Int) 63=((V % 64:Nat):Int):=and63u V (by omega);obtain ⟨m,hm⟩:∃m:Nat,m=V % 64:=⟨_,rfl⟩;rw[←hm] at hand;have hm64:m < lettersL.length:=by rw[hll];omega
     have HSH:=ZA (show sh≤64 by omega);have HV:=ZA hV;have HAND:=ZA hand;have HM:=ZA hm64;have HX4:Hid ((fourL N).take (k+1)=(fourL N).take k++ [lt64 m]):=ZA (by
      have hk0:k=0∨k=1∨k=2∨k=3:=by omega
      rcases hk0 with rfl | rfl | rfl | rfl
      ·have e:m=N / 262144:=by rw[hm,←hV,hsh];show N / 262144 % 64=_;omega
       rw[e];rfl
      ·have e:m=N / 4096 % 64:=by rw[hm,←hV,hsh]
       rw[e];rfl
      ·have e:m=N / 64 % 64:=by rw[hm,←hV,hsh]
       rw[e];rfl
      ·have e:m=N % 64:=by rw[hm,←hV,hsh];show N / 1 % 64=_;omega
       rw[e];rfl)
     have C:=wbyte_any w.heap.size w.heap.size ((out++(fourL N).take k).map u8v) ((lt64 m).toNat:Int) wr HSB4.o (by
      have h1:((fourL N).take k).length≤4:=by rw[List.length_take];omega
      have:=hLO.o;rw[List.length_map,List.length_append];omega) (Nat.le_trans HW.o.size HBL4.o.size)
     have hki:(k:Int) < 4:=by omega
     have HFIN:Hid (∀w5,SB w.heap.size w.heap.size ((out++(fourL N).take k)++ [lt64 m]) w5→Below w.heap.size W w5→BiRel w.heap.size w.heap.size N out W (.int .i64 ((k+1:Nat):Int)) w5):=ZA (fun w5 h5 hb5=> ⟨k+1,by omega,rfl,by rw[HX4.o,←List.append_assoc];exact h5,hb5⟩);have hk0:(k=0∧sh=18)∨(k=1∧sh=12)∨(k=2∧sh=6)∨(k=3∧sh=0):=by omega
     clear hk4 hsh hV hVN hand hm hm64 hll hnl hk hki;rcases hk0 with ⟨rfl,rfl⟩ | ⟨rfl,rfl⟩ | ⟨rfl,rfl⟩ | ⟨rfl,rfl⟩;all_goals
      go_wp2_with (first
       | (refine wpList_run rfl (run_arrIx _ rfl _ 0 4 .i64 336 (.int .u64 18) rfl rfl (by decide) Tryz.underlying418 Tryz.underlying336 rfl (by kernel_rfl) rfl) ?_)
       | (refine wpList_run rfl (run_arrIx _ rfl _ 1 4 .i64 336 (.int .u64 12) rfl rfl (by decide) Tryz.underlying418 Tryz.underlying336 rfl (by kernel_rfl) rfl) ?_)
       | (refine wpList_run rfl (run_arrIx _ rfl _ 2 4 .i64 336 (.int .u64 6) rfl rfl (by decide) Tryz.underlying418 Tryz.underlying336 rfl (by kernel_rfl) rfl) ?_)
       | (refine wpList_run rfl (run_arrIx _ rfl _ 3 4 .i64 336 (.int .u64 0) rfl rfl (by decide) Tryz.underlying418 Tryz.underlying336 rfl (by kernel_rfl) rfl) ?_)
       | (refine wpList_run rfl (run_bop _ rfl (.int .u64 N) _ (.int .u64 V) rfl rfl (run_shrU .u64 N _ V HSH.o HV.o _)) ?_)
       | (refine wpList_run rfl (run_bop _ rfl (.int .u64 V) (.int .u64 63) (.int .u64 m) rfl rfl (run_andI .u64 V 63 m HAND.o _)) ?_)
       | (refine wpList_run rfl (run_strIx _ rfl lettersL m .u64 rfl rfl HM.o Tryz.underlying9) ?_))
      refine C.mono ?_;rintro e w5 ⟨rfl,hb5,hbl5⟩;have HF:=ZA (SB.step rfl hb5);have HBF:=ZA (HBL4.o.trans hbl5);clear hb5 hbl5 C;go_wp2_with fail;exact ⟨HFIN.o w5 HF.o HBF.o,by simp[RowKit.intOf]⟩
    ·have hk4':k=4:=by omega
     subst hk4';have HSF:Hid (SB w.heap.size w.heap.size (out++fourL N) wr):=HSB4;have HRR:=ZA (show (out++fourL N)++b64 r=b64 s by rw[←HOR.o,HR.o,List.append_assoc];rfl);have hcut:(str (a::b::c::r)).extract 3 (r.length+1+1+1)=str r:=by apply ByteArray.ext;rw[ByteArray.data_extract];apply Array.ext';simp
     clear hk hll hk4;go_wp2_with fail;exact ⟨⟨out++fourL N,r,rfl,by simp at hr3⊢;omega,HRR.o,HSF.o,HBL4.o⟩,by simp only[strLen,str_size,List.length_cons];omega⟩
  ·obtain ⟨a,b,rfl⟩:∃a b,rest= [a,b]:=by
    match rest,h3,hr3 with
    | [a,b],_,_=> exact ⟨a,b,rfl⟩
    | [],_,h=> simp at h
    | [_],_,h=> simp at h
    | _::_::_::_,h,_=> exact absurd (by simp) h
   have HLO:=ZA (show out.length≤1398108 by have h:=congrArg List.length HOR.o;rw[List.length_append,b64_len s] at h;have:=HS.o;omega)
   have hal:=a.toNat_lt;have hbl:=b.toNat_lt;have hll:=lettersL_len;obtain ⟨X,hX⟩:∃X:Nat,X=a.toNat / 4:=⟨_,rfl⟩;obtain ⟨Y,hY⟩:∃Y:Nat,Y=a.toNat % 4:=⟨_,rfl⟩;obtain ⟨Y2,hY2⟩:∃Y2:Nat,Y2=Y*16:=⟨_,rfl⟩;obtain ⟨Z,hZ⟩:∃Z:Nat,Z=b.toNat / 16:=⟨_,rfl⟩;obtain ⟨V,hV⟩:∃V:Nat,V=Y2+Z:=⟨_,rfl⟩;obtain ⟨U,hU⟩:∃U:Nat,U=b.toNat % 16:=⟨_,rfl⟩;obtain ⟨T,hT⟩:∃T:Nat,T=U*4:=⟨_,rfl⟩;have HX:=ZA (show a.toNat / 2 ^ 2=X from hX.symm);have HY:=ZA (show bits .and .u8 (a.toNat:Int) 3=(Y:Int) by rw[show (3:Int)=((3:Nat):Int) from rfl,u8_and_nat a.toNat 3 (by omega) (by decide),and3,hY]);have HY2:=ZA (show Y*2 ^ 4=Y2 from hY2.symm);have HY3:=ZA (show Y2 < 256 by omega);have HZ:=ZA (show b.toNat / 2 ^ 4=Z from hZ.symm);have HV:=ZA (show bits .or .u8 (Y2:Int) (Z:Int)=(V:Int) by rw[u8_or_nat Y2 Z (by omega) (by omega),nat_join 4 Y2 Z (by omega) (by omega),hV]);have HU:=ZA (show bits .and .u8 (b.toNat:Int) 15=(U:Int) by rw[show (15:Int)=((15:Nat):Int) from rfl,u8_and_nat b.toNat 15 (by omega) (by decide),and15,hU]);have HT:=ZA (show U*2 ^ 2=T from hT.symm);have HT3:=ZA (show T < 256 by omega);have HXL:=ZA (show X < lettersL.length by omega);have HVL:=ZA (show V < lettersL.length by omega);have HTL:=ZA (show T < lettersL.length by omega);have HFIN:=ZA (show (((out++ [lt64 X])++ [lt64 V])++ [lt64 T])++ [61]=b64 s by rw[←HOR.o,hX,hV,hY2,hY,hZ,hT,hU];simp[b64]);clear hX hY hY2 hZ hV hU hT hll h3 hr3;have C:=wbyte_any w.heap.size w.heap.size (out.map u8v) ((lt64 X).toNat:Int) wr HSB.o (by have:=HLO.o;rw[List.length_map];omega) (Nat.le_trans HW.o.size HBL.o.size);go_wp2_with (first
    | (refine wpList_run rfl (run_strIx _ rfl [a,b] 0 .i64 rfl rfl (Nat.zero_lt_succ _) Tryz.underlying9) ?_)
    | (refine wpList_run rfl (run_bop _ rfl (.int .u8 a.toNat) (.int .u64 2) (.int .u8 X) rfl rfl (run_shrB .u64 a.toNat 2 X (by decide) HX.o _)) ?_)
    | (refine wpList_run rfl (run_strIx _ rfl lettersL X .u8 rfl rfl HXL.o Tryz.underlying9) ?_))
   refine C.mono ?_;rintro e w5 ⟨rfl,hb5,hbl5⟩;have H5:=ZA (SB.step rfl hb5);have HB5:=ZA (HBL.o.trans hbl5);clear hb5 hbl5 C;have C:=wbyte_any w.heap.size w.heap.size ((out++ [lt64 X]).map u8v) ((lt64 V).toNat:Int) w5.drew H5.o (by have:=HLO.o;rw[List.length_map,List.length_append,List.length_singleton];omega) (Nat.le_trans HW.o.size HB5.o.size);go_wp2_with fail;refine region_inv_tail 9 (fun w'=> w'=w5.drew) (by kernel_rfl) (by kernel_rfl) (by kernel_rfl) (by kernel_rfl) (by kernel_rfl) (by kernel_rfl) rfl ?_;simp only[List.take_succ_cons,List.take_zero,List.drop_succ_cons,List.drop_zero];refine inv_move rfl rfl (.string (str [a,b])) rfl ?_;refine inv_norm (by go_simp;exact rfl) ?_;refine inv_pure (v:=u8v a) rfl (fun w7=> run_strIx w7 rfl [a,b] 0 .i64 rfl rfl (Nat.zero_lt_succ _) Tryz.underlying9) ?_;refine inv_norm (by go_simp;exact rfl) ?_;refine inv_bin rfl rfl _ _ (.int .u8 Y) rfl rfl (run_andI .u8 a.toNat 3 Y HY.o) ?_;refine inv_norm (by go_simp;exact rfl) ?_;refine inv_bin rfl rfl _ _ (.int .u8 Y2) rfl rfl (run_shlB .u64 Y 4 Y2 (by decide) HY2.o HY3.o) ?_;refine inv_norm (by go_simp;exact rfl) ?_;refine inv_move rfl rfl (.string (str [a,b])) rfl ?_;refine inv_norm (by go_simp;exact rfl) ?_;refine inv_pure (v:=u8v b) rfl (fun w7=> run_strIx w7 rfl [a,b] 1 .i64 rfl rfl (Nat.lt_succ_self 1) Tryz.underlying9) ?_;refine inv_norm (by go_simp;exact rfl) ?_;refine inv_bin rfl rfl _ _ (.int .u8 Z) rfl rfl (run_shrB .u64 b.toNat 4 Z (by decide) HZ.o) ?_;refine inv_norm (by go_simp;exact rfl) ?_;refine inv_bin rfl rfl _ _ (.int .u8 V) rfl rfl (run_orI .u8 Y2 Z V HV.o) ?_;refine inv_norm (by go_simp;exact rfl) ?_;refine inv_pure (v:=u8v (lt64 V)) rfl (fun w7=> run_strIx w7 rfl lettersL V .u8 rfl rfl HVL.o Tryz.underlying9) ?_;refine inv_norm (by go_simp;exact rfl) ?_;refine inv_nil ?_;rintro w6 rfl;go_wp2_with fail;refine C.mono ?_;rintro e w6 ⟨rfl,hb5,hbl5⟩;have H6:=ZA (SB.step rfl hb5);have HB6:=ZA ((HB5.o.trans ⟨rfl,rfl,rfl,Nat.le_refl _,fun _ _=> rfl⟩:Below w.heap.size W w5.drew).trans hbl5);clear hb5 hbl5 C;have C:=wbyte_any w.heap.size w.heap.size (((out++ [lt64 X])++ [lt64 V]).map u8v) ((lt64 T).toNat:Int) w6 H6.o (by have:=HLO.o;rw[List.length_map,List.length_append,List.length_append,List.length_singleton,List.length_singleton];omega) (Nat.le_trans HW.o.size HB6.o.size);go_wp2_with (first
    | (refine wpList_run rfl (run_strIx _ rfl [a,b] 1 .i64 rfl rfl (Nat.lt_succ_self 1) Tryz.underlying9) ?_)
    | (refine wpList_run rfl (run_bop _ rfl (.int .u8 b.toNat) (.int .u8 15) (.int .u8 U) rfl rfl (run_andI .u8 b.toNat 15 U HU.o _)) ?_)
    | (refine wpList_run rfl (run_bop _ rfl (.int .u8 U) (.int .u64 2) (.int .u8 T) rfl rfl (run_shlB .u64 U 2 T (by decide) HT.o HT3.o _)) ?_)
    | (refine wpList_run rfl (run_strIx _ rfl lettersL T .u8 rfl rfl HTL.o Tryz.underlying9) ?_))
   refine C.mono ?_;rintro e w7 ⟨rfl,hb5,hbl5⟩;have H7:=ZA (SB.step rfl hb5);have HB7:=ZA (HB6.o.trans hbl5);clear hb5 hbl5 C;have C:=wbyte_any w.heap.size w.heap.size ((((out++ [lt64 X])++ [lt64 V])++ [lt64 T]).map u8v) (((61:UInt8)).toNat:Int) w7 H7.o (by have:=HLO.o;simp only[List.length_map,List.length_append,List.length_singleton];omega) (Nat.le_trans HW.o.size HB7.o.size);go_wp2_with fail;refine C.mono ?_;rintro e w8 ⟨rfl,hb5,hbl5⟩;have H8:=ZA (SB.step rfl hb5);have HB8:=ZA (HB7.o.trans hbl5);clear hb5 hbl5 C;rw[HFIN.o] at H8;have C:=Tryz.Builder_String_any w.heap.size w.heap.size (b64 s) w8 H8.o (Nat.le_trans HW.o.size HB8.o.size);go_wp2_with fail;refine C.mono ?_;rintro e w9 ⟨rfl,hbl9⟩;have HF:=ZA (Ext.of_below ((Ext.below HW.o (Nat.le_refl _)).trans (HB8.o.trans hbl9)));clear hbl9 C;go_wp2_with fail;go_ret;exact ⟨rfl,HF.o⟩
end Go.Proofs.YtjnjpgdoncbahaaGreatDoor
