/- Frames: 'Upd S w w'': the world w' has grown out of w; of the blocks that were there only those in S may have turned. Plain lemmas on worlds; nothing of the program. -/
import Derived.Test.YtjnjpgdoncbahaaGreatDoorProg
import Derived.WalkKit
import Derived.WalkLawsBesides
import Derived.LaidEql
import Derived.Stop.Asserts
import Derived.RowKitTokens
import Derived.Lib.Hide
import Derived.Deep.QuietTactic
import Derived.BigQuiet
import Derived.Deep.RegionWith
import Derived.Deep.RegionHeld3
import Derived.WalkSpells
namespace Go.Proofs.YtjnjpgdoncbahaaGreatDoor
open Go.RowKit
theorem ZA{p:Prop}(h:p):RowKit.Hid p:=h
theorem _root_.Go.RowKit.Hid.o{p:Prop}(h:RowKit.Hid p):p:=h
variable {a p:Addr}{c:Array Value}{o:Obj}{t:TypeId}{v:Value}
structure Upd (S:Nat→Prop) (w w':World):Prop where
 os:w'.os=w.os
 tape:w'.tape=w.tape
 output:w'.output=w.output
 size:w.heap.size≤w'.heap.size
 block:∀k,k < w.heap.size→¬S k→w'.heap[k]? =w.heap[k]?
def none':Nat→Prop:=fun _=> False
def one(b:Nat):Nat→Prop:=fun k=> k=b
def two(b c:Nat):Nat→Prop:=fun k=> k=b∨k=c
abbrev Ext(w w':World):Prop:=Upd none' w w'
variable {S:Nat→Prop} {w w1 w2:World}
theorem Upd.refl(S:Nat→Prop)(w:World):Upd S w w:=⟨rfl,rfl,rfl,Nat.le_refl _,fun _ _ _=> rfl⟩
theorem Upd.trans(h:Upd S w w1)(k:Upd S w1 w2):Upd S w w2:=
 ⟨k.os.trans h.os,k.tape.trans h.tape,k.output.trans h.output,Nat.le_trans h.size k.size,fun i hi hn=> (k.block i (Nat.lt_of_lt_of_le hi h.size) hn).trans (h.block i hi hn)⟩
theorem Upd.mono{T:Nat→Prop}(h:Upd S w w1)(hs:∀k,k < w.heap.size→S k→T k):Upd T w w1:=
 ⟨h.os,h.tape,h.output,h.size,fun i hi hn=> h.block i hi (fun hk=> hn (hs i hi hk))⟩
theorem Upd.ext(h:Ext w w1)(S:Nat→Prop):Upd S w w1:=h.mono (fun _ _ hk=> hk.elim)
theorem Upd.drew(h:Upd S w w1):Upd S w w1.drew:=⟨h.os,h.tape,h.output,h.size,h.block⟩
theorem Upd.drewN(h:Upd S w w1)(n:Nat):Upd S w (w1.drewN n):=⟨h.os,h.tape,h.output,h.size,h.block⟩
theorem Upd.alloc(h:Upd S w w1)(o:Obj):Upd S w (w1.alloc o):=
 ⟨h.os,h.tape,h.output,by have:=h.size;simp;omega,fun k hk hn=> by rw[Below.heap_alloc _ _ _ (Nat.lt_of_lt_of_le hk h.size)];exact h.block k hk hn⟩
theorem Upd.setCell(h:Upd S w w1)(hp:w.heap.size≤p.block∨S p.block)(u:Value):Upd S w (w1.setCell p u):=
 ⟨h.os,h.tape,h.output,by have:=h.size;simp[World.setCell];omega,fun k hk hn=> by rw[Below.heap_setCell _ _ _ _ (fun e=> by subst e;exact hp.elim (fun h1=> by omega) hn)];exact h.block k hk hn⟩
theorem Upd.grown{row:Option Nat}(h:Upd S w w1)(hg:w1.grownBy w2 row)(hr:∀k,row=some k→w.heap.size≤k∨S k):Upd S w w2:=
 ⟨hg.os.trans h.os,hg.tape.trans h.tape,hg.output.trans h.output,Nat.le_trans h.size hg.size,fun k hk hn=>
  (hg.block k (Nat.lt_of_lt_of_le hk h.size) (fun e=> (hr k e.symm).elim (fun h1=> by omega) hn)).trans (h.block k hk hn)⟩
theorem Upd.below(h:Upd S w w1){B:Nat}(hB:B≤w.heap.size)(hS:∀k,S k→B≤k):Below B w w1:=
 ⟨h.os,h.tape,h.output,h.size,fun k hk=> h.block k (by omega) (fun hs=> by have:=hS k hs;omega)⟩
theorem Upd.of_below{B:Nat}(h:Below B w w1)(hS:∀k,k < w.heap.size→B≤k→S k):Upd S w w1:=
 ⟨h.os,h.tape,h.output,h.size,fun k hk hn=> h.block k ((Nat.lt_or_ge k B).elim id (fun h1=> (hn (hS k hk h1)).elim))⟩
theorem Ext.below(h:Ext w w1){B:Nat}(hB:B≤w.heap.size):Below B w w1:=Upd.below h hB (fun _ hk=> hk.elim)
theorem Ext.of_below(h:Below w.heap.size w w1):Ext w w1:=Upd.of_below h (fun k h1 h2=> by omega)
theorem Upd.then{T:Nat→Prop}(h:Upd S w w1)(k:Upd T w1 w2)(ht:∀b,b < w.heap.size→T b→S b):Upd S w w2:=
 ⟨k.os.trans h.os,k.tape.trans h.tape,k.output.trans h.output,Nat.le_trans h.size k.size,fun i hi hn=> (k.block i (Nat.lt_of_lt_of_le hi h.size) (fun hk=> hn (ht i hi hk))).trans (h.block i hi hn)⟩
theorem Upd.thenExt(h:Upd S w w1)(k:Ext w1 w2):Upd S w w2:=h.then k (fun _ _ hk=> hk.elim)
theorem Upd.cell(h:Upd S w w1)(hp:p.block < w.heap.size)(hn:¬S p.block):w1.cell? p=w.cell? p:=World.cell?_of_block (w:=w) (h.block p.block hp hn)
theorem lt_of_blk{b:Nat}(h:w.heap[b]? =some o):b < w.heap.size:=(Array.getElem?_eq_some_iff.1 h).1
theorem lt_of_cell(h:w.cell? a=some v):a.block < w.heap.size:=by
 rcases Nat.lt_or_ge a.block w.heap.size with h1 | h1
 ·exact h1
 ·simp[World.cell?,Array.getElem?_eq_none h1] at h
theorem Upd.blk(h:Upd S w w1){b:Nat}(hb:w.heap[b]? =some o)(hn:¬S b):w1.heap[b]? =some o:=(h.block b (lt_of_blk hb) hn).trans hb
theorem Ext.blk(h:Ext w w1){b:Nat}(hb:w.heap[b]? =some o):w1.heap[b]? =some o:=Upd.blk h hb id
theorem Ext.cellv(h:Ext w w1)(hb:w.cell? a=some v):w1.cell? a=some v:=(Upd.cell h (lt_of_cell hb) id).trans hb
theorem cell_of_blk{b:Nat}{f:Nat×Nat}(h:w.heap[b]? =some (.cells c t f))(i:Nat):w.cell? ⟨b,i,none⟩=c[i]? :=by simp[World.cell?,h]
theorem free_of_blk{b:Nat}(h:w.heap[b]? =some (.cells c t (0,0)))(i:Nat):w.frozen? ⟨b,i,none⟩=false:=by simp[World.frozen?,h]
theorem blk_alloc(w:World)(o:Obj):(w.alloc o).heap[w.heap.size]? =some o:=heap_alloc_new w o
theorem blk_alloc_lt{b:Nat}{o':Obj}(h:w.heap[b]? =some o')(o:Obj):(w.alloc o).heap[b]? =some o':=by rw[Below.heap_alloc _ _ _ (lt_of_blk h)];exact h
theorem blk_set{b:Nat}{f:Nat×Nat}(h:w.heap[b]? =some (.cells c t f))(i:Nat)(v:Value):
 (w.setCell ⟨b,i,none⟩ v).heap[b]? =some (.cells (c.setIfInBounds i v) t f):=by
 simp[World.setCell,Array.getElem?_modify,h]
section
variable {P:Program}
theorem append_block(w:World)(base:Nat)(t ty e:TypeId)(i:TypeInfo)(z:Value)(ht:P.underlying t=some (.slice e))(hi:P.info? e=some i)(hz:i.zero=some z)
 (v:Value) (n:Nat) (xs:List Value) (hown:w.ownsRow base e i.size v n xs)
 (a:Addr) (m c:Nat) (news:List Value) (hl:news.length=m*i.size) (hnews:∀j u,news[j]? =some u→w.cell? (a.add j)=some u) (h1:∀u∈news,u.oneCell'=true)
 (h63:n+m≤maxLen) (hbytes:(n+m)*i.bytes≤140737488355328) (v':Value) (w':World)
 (hr:(Builtin.append_ #[t,t] ty #[v,.slice (some a) m c]).run P w= .ok v' w'):v'.ownBlock=v.ownBlock∨v'.ownBlock=some w.heap.size:=by
 have hsmall:n+m≤9223372036854775807:=by simp only[maxLen] at h63;omega
 rcases hown.2 with ⟨rfl,rfl⟩ | ⟨g,cap,cur,rfl,hbg,hg,hnc,hcm,hcs,htake⟩
 ·by_cases hm:m=0
  ·subst hm;have e2:(Builtin.append_ #[t,t] ty #[.slice none 0 0,.slice (some a) 0 c]).run P w= .ok (.slice none 0 0) w:=by simp[Builtin.append_,run_underlying ht,sizeOf,typeInfo,hi,Builtin.lenOf,Builtin.firstCells,loadCells,loadCellsFrom]
   rw[e2] at hr;cases hr
   exact .inl rfl
  ·have e2:=run_append_nil (P:=P) w t ty e i z ht hi hz a m c news hl hnews (by omega) (by omega) (by have hb:=hbytes;simp only[Nat.zero_add] at hb;omega);rw[e2] at hr;cases hr
   exact .inr rfl
 ·by_cases hroom:n+m≤cap
  ·have hfit:n*i.size+news.length≤cur.size:=by rw[hl,hcs,←Nat.add_mul];exact Nat.mul_le_mul_right _ hroom
   have e2:=run_append_room (P:=P) w t ty e i ht hi g n cap cur hg a m c news hl hnews h1 hroom hfit;rw[e2] at hr;cases hr
   exact .inl rfl
  ·have holds:∀j u,xs[j]? =some u→w.cell? ((⟨g,0,none⟩:Addr).add j)=some u:=hown.cells (g:=g) rfl;have e2:=run_append_grow (P:=P) w t ty e i z ht hi hz ⟨g,0,none⟩ n cap xs hown.1 holds a m c news hl hnews (by omega) (by omega) (growslice_fits (by omega) hbytes);rw[e2] at hr;cases hr
   exact .inr rfl
theorem wpList_app{w:World}{ops:Array Oper}{rest:List Oper}{o:Oper}{a:Act}{Q:Exit→Act→World→Prop}(hgd:o.guard=none)(s x:Operand)(t:TypeId)
 (ho:o.op= .call {callee:= .builtin .append,args:=#[s,x],argTypes:=#[t,t]})
 (base:Nat) (e:TypeId) (i:TypeInfo) (z:Value) (size bytes:Nat) (ht:P.underlying t=some (.slice e)) (hi:P.info? e=some i) (hz:i.zero=some z)
 (hsize:i.size=size) (hby:i.bytes=bytes) (hzs:z.cells.size=size) (hsz:0 < size)
 (v:Value) (n:Nat) (xs:List Value) (hs:a.eval s=v) (hown:w.ownsRow base e size v n xs)
 (ad:Addr) (m c:Nat) (news:List Value) (hx:a.eval x= .slice (some ad) m c) (hl:news.length=m*size) (hnews:∀j u,news[j]? =some u→w.cell? (ad.add j)=some u) (h1:∀u∈news,u.oneCell'=true)
 (h63:n+m≤maxLen) (hbytes:(n+m)*bytes≤140737488355328) (hbase:base≤w.heap.size)
 (h:∀v' w',w'.ownsRow base e size v' (n+m) (xs++news)→w.grownBy w' v.ownBlock→(v'.ownBlock=v.ownBlock∨v'.ownBlock=some w.heap.size)→wpList P ops Q rest (a.put o.dst v') w'):wpList P ops Q (o::rest) a w:=by
 refine wpList_plain hgd fun K hK=> ?_;obtain ⟨v',w',hr,h2,h3,_⟩:=run_append_own (P:=P) w base t o.type e i z size bytes ht hi hz hsize hby hzs hsz v n xs hown ad m c news hl hnews h1 h63 hbytes hbase;subst hsize;subst hby;have h4:=append_block w base t o.type e i z ht hi hz v n xs hown ad m c news hl hnews h1 h63 hbytes v' w' hr;unfold Oper.wp execOp;simp only[ho,resolve,invoke,builtin,Sem.run_bind,Sem.run_pure,Result.andThen_ok,List.map_toArray,List.map_cons,List.map_nil,hs,hx,hr];exact hK _ _ (h v' w' h2 h3 h4)
end
end Go.Proofs.YtjnjpgdoncbahaaGreatDoor
