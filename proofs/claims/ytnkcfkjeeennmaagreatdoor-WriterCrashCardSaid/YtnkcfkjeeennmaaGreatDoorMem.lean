/- Rows of the call's own: plain lemmas on memory. Structs and arrays stored whole; hashes by value. -/
import Derived.Test.YtnkcfkjeeennmaaGreatDoorApp
import Derived.Test.YtnkcfkjeeennmaaGreatDoorAgg
namespace Go.Proofs.YtnkcfkjeeennmaaGreatDoor
open Go.RowKit Go.Lib
variable {A:Option Addr}{B b c e g n o size:Nat}{a:Act}{cs xs:List Value}{f:Nat×Nat}{ops:Array Oper}{rest:List Oper}{t:TypeId}{v:Value}
theorem rowT{w:World}(h:w.ownsRow B e size v n xs)(hg:v.ownBlock=some g):∃c,w.heap[g]? =some (.cells c e (0,0)):=by
 rcases h.2 with ⟨rfl,_⟩ | ⟨g',cap,cur,rfl,_,hb,_⟩
 ·cases hg
 ·obtain rfl:g'=g:=by simpa[Value.ownBlock] using hg
  exact ⟨_,hb⟩
theorem tyNe{w:World}{cs cs':Array Value}{t':TypeId}{f':Nat×Nat}(h:w.heap[b]? =some (.cells cs t f))(h':w.heap[c]? =some (.cells cs' t' f'))(ht:t≠t'):b≠c:=fun e=> by rw[e,h'] at h;simp only[Option.some.injEq,Obj.cells.injEq] at h;exact ht h.2.1.symm
theorem rowNe{w:World}{cs:Array Value}(h:w.ownsRow B e size v n xs)(hb:w.heap[b]? =some (.cells cs t f))(ht:e≠t):∀g,v.ownBlock=some g→g≠b:=fun g hg=> by obtain ⟨c,hc⟩:=rowT h hg;exact tyNe hc hb ht
theorem ownLow{w:World}{B':Nat}{e:TypeId}(h:w.ownsRow B e size v n xs)(hB:B'≤B):w.ownsRow B' e size v n xs:=by
 refine ⟨h.1,?_⟩;rcases h.2 with h0 | ⟨g,cap,cur,hv,hb,rest⟩
 ·exact .inl h0
 ·exact .inr ⟨g,cap,cur,hv,Nat.le_trans hB hb,rest⟩
theorem u8_ones(l:List UInt8):∀u∈l.map u8v,u.oneCell'=true:=fun u hu=> by obtain ⟨x,_,rfl⟩:=List.mem_map.1 hu;rfl
theorem CellsAt.upd{S:Nat→Prop}{w w':World}(h:CellsAt w A cs)(u:Upd S w w')(hS:∀ad,A=some ad→¬S ad.block):CellsAt w' A cs:=fun j v hv=> by
 obtain ⟨ad,e,hc⟩:=h j v hv;have hb:(ad.add j).block=ad.block:=by unfold Addr.add;split <;> rfl
 refine ⟨ad,e,?_⟩;rw[Upd.cell u (lt_of_cell hc) (by rw[hb];exact hS ad e)];exact hc
theorem CellsAt.drop{w:World}(h:CellsAt w (some ⟨g,o,none⟩) cs)(k:Nat):CellsAt w (some ⟨g,o+k,none⟩) (cs.drop k):=fun j v hv=> by
 rw[List.getElem?_drop] at hv;obtain ⟨ad,e,hc⟩:=h (k+j) v hv;obtain rfl:=Option.some.inj e;refine ⟨_,rfl,?_⟩;have e2:(⟨g,o,none⟩:Addr).add (k+j)=(⟨g,o+k,none⟩:Addr).add j:=by simp only[Addr.add_lit,Nat.add_assoc]
 rw[←e2];exact hc
theorem CellsAt.take{w:World}(h:CellsAt w A cs)(k:Nat):CellsAt w A (cs.take k):=fun j v hv=> by
 rw[List.getElem?_take] at hv;split at hv
 ·exact h j v hv
 ·cases hv
theorem CellsAt.cell{w:World}(h:CellsAt w (some ⟨g,o,none⟩) cs){j:Nat}(hj:cs[j]? =some v):w.cell? ⟨g,o+j,none⟩=some v:=by
 obtain ⟨ad,e,hc⟩:=h j v hj;obtain rfl:=Option.some.inj e;have e2:(⟨g,o,none⟩:Addr).add j=⟨g,o+j,none⟩:=by simp only[Addr.add_lit]
 rw[←e2];exact hc
theorem CellsAt.row{w:World}(h:w.ownsRow B e 1 (.slice (some ⟨g,0,none⟩) n c) n xs):CellsAt w (some ⟨g,0,none⟩) xs:=fun j v hv=> ⟨_,rfl,h.cells (g:=g) rfl j v hv⟩
theorem own_cap{w:World}(h:w.ownsRow B e size (.slice (some ⟨g,0,none⟩) n c) n xs):n≤c:=by
 rcases h.2 with ⟨hv,_⟩ | ⟨g',cap,cur,hv,_,_,hnc,_⟩
 ·cases hv
 ·simp only[Value.slice.injEq,true_and] at hv;obtain ⟨_,rfl⟩:=hv;exact hnc
theorem row_cut{w:World}{m:Nat}(h:w.ownsRow B e 1 (.slice A n c) n xs)(hm:m≤n):w.ownsRow B e 1 (.slice A m c) m (xs.take m):=by
 have hl:=h.1;refine ⟨by rw[List.length_take];omega,?_⟩;rcases h.2 with ⟨hv,h0⟩ | ⟨g,cap,cur,hv,hb,hg,hnc,hcm,hcs,ht⟩
 ·simp only[Value.slice.injEq] at hv;obtain ⟨rfl,h1,rfl⟩:=hv;left;exact ⟨by simp;omega,by omega⟩
 ·simp only[Value.slice.injEq,true_and] at hv;obtain ⟨rfl,rfl⟩:=hv;right;refine ⟨g,c,cur,rfl,hb,hg,by omega,hcm,hcs,?_⟩;have e:xs.take m=(cur.toList.take (n*1)).take m:=by rw[←ht]
  rw[List.take_take] at e;rw[e];congr 1;omega
section
variable {P:Program} {w:World}
theorem store_whole{o:Oper}{Q:Exit→Act→World→Prop}(hgd:o.guard=none)(ty:TypeId)(x y:Operand)(ho:o.op= .store ty x y)
 (g:Nat) (hx:a.eval x= .pointer (some ⟨g,0,none⟩)) (vs:List Value) (hy:a.eval y= .agg vs.toArray) (hi:(P.info? ty).map (·.size)=some vs.length)
 (cs:List Value) (t:TypeId) (hg:w.heap[g]? =some (.cells cs.toArray t (0,0))) (hl:cs.length=vs.length) (h1:∀u∈vs,u.oneCell'=true)
 (h:wpList P ops Q rest (a.put o.dst undef) (w.setRow g vs.toArray)):wpList P ops Q (o::rest) a w:=by
 refine wpList_storeAgg hgd ty x y ho g 0 hx vs hy hi cs t hg (by omega) h1 ?_;rw[over_all _ _ hl];exact h
theorem store_new{o:Oper}{Q:Exit→Act→World→Prop}(hgd:o.guard=none)(ty:TypeId)(x y:Operand)(ho:o.op= .store ty x y)
 (z:Array Value) (t:TypeId) (hx:a.eval x= .pointer (some ⟨w.heap.size,0,none⟩)) (vs:List Value) (hy:a.eval y= .agg vs.toArray) (hi:(P.info? ty).map (·.size)=some vs.length) (hz:z.size=vs.length) (h1:∀u∈vs,u.oneCell'=true)
 (h:wpList P ops Q rest (a.put o.dst undef) (w.alloc (.cells vs.toArray t))):wpList P ops Q (o::rest) a (w.alloc (.cells z t)):=by
 refine wpList_storeAgg hgd ty x y ho w.heap.size 0 hx vs hy hi z.toList t (blk_alloc w _) (by simp[hz]) h1 ?_;rw[over_all _ _ (by simpa using hz),setRow_alloc];exact h
end
theorem hash_size:(Tryz.prog.info? 30).map (·.size)=some 32:=by kernel_rfl
theorem hash_size32(h:List UInt8)(hl:h.length=32):(Tryz.prog.info? 30).map (·.size)=some (h.map u8v).length:=by rw[hash_size,List.length_map,hl]
abbrev zero32:Array Value:=#[.int .u8 0,.int .u8 0,.int .u8 0,.int .u8 0,.int .u8 0,.int .u8 0,.int .u8 0,.int .u8 0,.int .u8 0,.int .u8 0,.int .u8 0,.int .u8 0,.int .u8 0,.int .u8 0,.int .u8 0,.int .u8 0,.int .u8 0,.int .u8 0,.int .u8 0,.int .u8 0,.int .u8 0,.int .u8 0,.int .u8 0,.int .u8 0,.int .u8 0,.int .u8 0,.int .u8 0,.int .u8 0,.int .u8 0,.int .u8 0,.int .u8 0,.int .u8 0]
abbrev hashV(h:List UInt8):Value:= .agg (h.map u8v).toArray
theorem blk_cells{w:World}(h:w.heap[g]? =some (.cells cs.toArray t f)):∀j v,cs[j]? =some v→w.cell? ⟨g,0+j,none⟩=some v:=fun j v hv=> by rw[cell_of_blk h];simpa using hv
end Go.Proofs.YtnkcfkjeeennmaaGreatDoor
