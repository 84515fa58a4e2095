/- Structs and arrays by value: a load of one, a store of one, in a list of operations. Nothing of the program. codec.Writer: its calls by contracts. A writer's footprint S: the blocks that it may write. codec.Writer: Var, Text, Hash, Fixed, Done by contracts. Bytes: append of a string onto a row of the call's own; a row's bytes as a string. -/
import Derived.Test.YtnkcfkjeeennmaaGreatDoorBase
import Derived.Test.YtnkcfkjeeennmaaGreatDoorCode
import Derived.Lib.AppendStr
namespace Go.Proofs.YtnkcfkjeeennmaaGreatDoor
open Go.RowKit Go.Lib
variable {B e g n size:Nat}{a:Act}{d:TypeDesc}{o:Oper}{ops:Array Oper}{rest:List Oper}{v:Value}{xs:List Value}
def aggD:TypeDesc→Bool | .struct _ | .array _ _=> true | _=> false
section
variable {P:Program} {w:World}
theorem run_isAgg(ty:TypeId)(hu:P.underlying ty=some d)(hd:aggD d=true):(isAgg ty).run P w= .ok true w:=by unfold isAgg;rw[Sem.run_bind,run_underlying hu w];cases d <;> simp_all [aggD]
theorem run_loadVar_at(g off:Nat)(ty:TypeId)(vs:List Value)(hu:P.underlying ty=some d)(hd:aggD d=true)(hi:(P.info? ty).map (·.size)=some vs.length)
 (hc:∀j v,vs[j]? =some v→w.cell? ⟨g,off+j,none⟩=some v):(loadVar ty ⟨g,off,none⟩).run P w= .ok (.agg vs.toArray) w:=by
 have hl:(loadCells ⟨g,off,none⟩ vs.length).run P w= .ok vs.toArray w:=
  run_loadCells_list (P:=P) w ⟨g,off,none⟩ vs (fun j v hv=> by
   have hadd:(⟨g,off,none⟩:Addr).add j=⟨g,off+j,none⟩:=by unfold Addr.add;split <;> simp_all
   rw[hadd];exact hc j v hv)
 cases hq:P.info? ty with
 | none=> simp[hq] at hi
 | some i=>
  have hs:i.size=vs.length:=by simpa[hq] using hi
  simp[loadVar,Sem.run_bind,run_isAgg (w:=w) ty hu hd,sizeOf,typeInfo,hq,hs,hl]
theorem wpList_loadAgg{Q:Exit→Act→World→Prop}(hgd:o.guard=none)(ty:TypeId)(x:Operand)(ho:o.op= .load ty x)
 (g off:Nat) (hx:a.eval x= .pointer (some ⟨g,off,none⟩)) (vs:List Value) (hu:P.underlying ty=some d) (hd:aggD d=true) (hi:(P.info? ty).map (·.size)=some vs.length)
 (hc:∀j v,vs[j]? =some v→w.cell? ⟨g,off+j,none⟩=some v)
 (h:wpList P ops Q rest (a.put o.dst (.agg vs.toArray)) w):wpList P ops Q (o::rest) a w:=by
 refine wpList_plain hgd fun _ hK=> ?_;unfold Oper.wp execOp;simp only[ho,hx,Instr.loadAt,Instr.sureAddr,Sem.run_bind,Sem.run_pure,Result.andThen_ok,run_loadVar_at g off ty vs hu hd hi hc];exact hK _ _ h
def over(cs:List Value)(off:Nat)(vs:List Value):List Value:=cs.take off++(vs++cs.drop (off+vs.length))
theorem over_all(cs vs:List Value)(h:cs.length=vs.length):over cs 0 vs=vs:=by simp[over,←h]
theorem wpList_storeAgg{Q:Exit→Act→World→Prop}(hgd:o.guard=none)(ty:TypeId)(x y:Operand)(ho:o.op= .store ty x y)
 (g off:Nat) (hx:a.eval x= .pointer (some ⟨g,off,none⟩)) (vs:List Value) (hy:a.eval y= .agg vs.toArray) (hi:(P.info? ty).map (·.size)=some vs.length)
 (cs:List Value) (t:TypeId) (hg:w.heap[g]? =some (.cells cs.toArray t (0,0))) (hfit:off+vs.length≤cs.length) (h1:∀u∈vs,u.oneCell'=true)
 (h:wpList P ops Q rest (a.put o.dst undef) (w.setRow g (over cs off vs).toArray)):wpList P ops Q (o::rest) a w:=by
 refine wpList_plain hgd fun _ hK=> ?_;have hst:=run_storeCells_at P g off t vs 0 cs.toArray w hg (by simpa using hfit) h1;cases hq:P.info? ty with
 | none=> simp[hq] at hi
 | some i=>
  have hs:i.size=vs.length:=by simpa[hq] using hi
  have hadd:(⟨g,off+0,none⟩:Addr)=⟨g,off,none⟩:=rfl;unfold Oper.wp execOp;simp only[Nat.add_zero] at hst;simp[ho,hx,hy,Instr.storeAt,Instr.sureAddr,storeVar,sizeOf,typeInfo,hq,hs,Value.cells,hst];exact hK _ _ h
end
theorem blk_setRow{w:World}{cs:Array Value}{t:TypeId}{f:Nat×Nat}(h:w.heap[g]? =some (.cells cs t f))(cs':Array Value):(w.setRow g cs').heap[g]? =some (.cells cs' t f):=setRow_heap w g cs cs' t f h
theorem blk_setRow_ne{w:World}{k:Nat}{o:Obj}(h:w.heap[k]? =some o)(hne:k≠g)(cs':Array Value):(w.setRow g cs').heap[k]? =some o:=(setRow_other w g k cs' hne).trans h
theorem Upd.setRow{S:Nat→Prop}{w w1:World}(h:Upd S w w1)(hp:w.heap.size≤g∨S g)(cs:Array Value):Upd S w (w1.setRow g cs):=
 ⟨h.os,h.tape,h.output,by have:=h.size;simp;omega,fun k hk hn=> by rw[setRow_other w1 g k cs (fun e=> by subst e;exact hp.elim (fun h1=> by omega) hn)];exact h.block k hk hn⟩
theorem setRow_alloc(w:World)(z cs:Array Value)(t:TypeId)(f:Nat×Nat):(w.alloc (.cells z t f)).setRow w.heap.size cs=w.alloc (.cells cs t f):=by
 have e:((w.heap.push (.cells z t f)).modify w.heap.size fun | .cells _ elem frozen=> .cells cs elem frozen | o=> o)=w.heap.push (.cells cs t f):=by
  apply Array.ext
  ·simp
  ·intro i h1 h2;simp only[Array.getElem_modify,Array.getElem_push];by_cases hi:i < w.heap.size
   ·simp[hi,Nat.ne_of_gt hi]
   ·have:w.heap.size=i:=by simp at h1;omega
    simp[this]
 show {w with heap:=_}=({w with heap:=_}:World);congr 1
abbrev u8v(c:UInt8):Value:= .int .u8 (c.toNat:Int)
theorem info_u8:(Tryz.prog.info? 5).map (fun i=> (i.zero,i.size,i.bytes))=some (some (.int .u8 0),1,1):=by kernel_rfl
theorem ownsRow_upd{w w':World}{T:Nat→Prop}(h:w.ownsRow B e size v n xs)(k:Upd T w w')(hT:∀g,v.ownBlock=some g→¬T g):w'.ownsRow B e size v n xs:=by
 refine ⟨h.1,?_⟩;rcases h.2 with hn | ⟨g,cap,cur,rfl,hb,hgg,rest⟩
 ·exact .inl hn
 ·exact .inr ⟨g,cap,cur,rfl,hb,k.blk hgg (hT g rfl),rest⟩
theorem own_form{w:World}(h:w.ownsRow B e size v n xs):(v= .slice none 0 0∧n=0)∨∃g cap,v= .slice (some ⟨g,0,none⟩) n cap∧B≤g:=by
 rcases h.2 with h | ⟨g,cap,cur,h1,h2,_⟩
 ·exact .inl h
 ·exact .inr ⟨g,cap,h1,h2⟩
section
variable {P:Program}
end
abbrev str(l:List UInt8):ByteArray:=⟨l.toArray⟩
theorem str_size(l:List UInt8):(str l).size=l.length:=by simp[ByteArray.size]
theorem strOfNums_str(xs:List UInt8):strOfNums (xs.map fun c=> (c.toNat:Int))=str xs:=by
 have:(xs.map fun c=> (c.toNat:Int)).map (fun n=> UInt8.ofNat n.toNat)=xs:=by rw[List.map_map];exact (List.map_congr_left (fun c _=> by simp)).trans (List.map_id xs)
 unfold strOfNums str;rw[this]
end Go.Proofs.YtnkcfkjeeennmaaGreatDoor
