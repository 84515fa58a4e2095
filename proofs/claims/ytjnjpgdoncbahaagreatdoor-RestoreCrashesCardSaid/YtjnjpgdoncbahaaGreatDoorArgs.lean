/- Arguments that are rows of things: opened to their cells; read again in a world behind, where all that was there is as it was. Things and hashes compared with themselves. Arguments that are rows, opened: any element's type, by what one element is. -/
import Derived.Test.YtjnjpgdoncbahaaGreatDoorLaid
import Derived.Test.YtjnjpgdoncbahaaGreatDoorAgg
import Derived.Test.YtjnjpgdoncbahaaGreatDoorCode
import Derived.Deep.Slices
import Derived.ChangeMaps5
import Derived.DeepKeys
import Derived.Laws.StructEq
namespace Go.Proofs.YtjnjpgdoncbahaaGreatDoor
open Go.ChangeShapes Go.WideShapes Go.ChangeAt Go.RowKit Go.Lib Go.Deep
set_option maxRecDepth 20000
variable {a:Addr}{p:List MemPlace}{r:Reach}
theorem mapM_later{α β:Type}{f g:α→Option β}:∀(l:List α) (ys:List β),(∀x∈l,∀y,f x=some y→g x=some y)→l.mapM f=some ys→l.mapM g=some ys
 | [],ys,_,h=> by simpa using h
 | x::l,ys,hx,h=> by simp only[List.mapM_cons,Option.bind_eq_bind,Option.bind_eq_some_iff,Option.pure_def,Option.some.injEq] at h⊢;obtain ⟨y,hy,zs,hzs,rfl⟩:=h;exact ⟨y,hx x (by simp) y hy,zs,mapM_later l zs (fun a ha=> hx a (by simp[ha])) hzs,rfl⟩
theorem cells_later{w w':World}(hk:∀b,b < w.heap.size→w'.heap[b]? =w.heap[b]?){base:Nat}{n:Nat}{cs:List Value}(h:w.cells? base a n=some cs):w'.cells? base a n=some cs:=by
 unfold World.cells? at h⊢;split at h
 ·rename_i hb;rw[if_pos hb];refine mapM_later _ _ (fun i _ y hy=> ?_) h;have:=hk _ (lt_of_cell hy);simp only[World.cell?] at hy⊢;rw[this];exact hy
 ·cases h
theorem lt_of_cells{w:World}{base:Nat}{n:Nat}{cs:List Value}(h:w.cells? base a n=some cs)(hn:0 < n):a.block < w.heap.size:=by obtain ⟨_,hl,hc⟩:=World.cells?_some h;have h0:=hc 0 hn;rw[List.getElem?_eq_getElem (by omega)] at h0;have:=lt_of_cell h0;simpa[Addr.add] using this
def okAt(P:Program)(n t:Nat):Bool:=
 match P.underlying t with
 | some (.slice e)=> decide (e < n) && decide (0 < P.cellsOf e)
 | some (.pointer e) | some (.array _ e) | some (.map _ e)=> decide (e < n)
 | some (.struct fs)=> fs.toList.all fun f=> decide (f.type < n)
 | _=> true
section
variable {H:Type} {enc:TypeId×Value→H} {P:Program} {w w':World} {N:Nat}
theorem trod_later(hz:∀t,t < N→okAt P N t=true)(hk:∀b,b < w.heap.size→w'.heap[b]? =w.heap[b]?):
 ∀(fuel:Nat) (t:TypeId) (cs:List Value) (x:DataW H×List MemPlace),t < N→DataW.trod enc P w 0 (fun _=> true) true fuel t cs=some x→DataW.trod enc P w' 0 (fun b=> decide (b < w.heap.size)) true fuel t cs=some x:=by
 intro fuel;induction fuel with
 | zero=> intro t cs x hN h;simp[DataW.trod] at h
 | succ n ih=>
  intro t cs x hN h;have hZ:=hz t hN;unfold okAt at hZ;unfold DataW.trod at h⊢;split at h;case h_6 e a ht=>
   rw[ht] at hZ;simp only[decide_eq_true_eq] at hZ;simp only[Option.map_eq_some_iff,Option.bind_eq_some_iff] at h⊢;obtain ⟨y,⟨c,hc,hy⟩,rfl⟩:=h;exact ⟨y,⟨c,cells_later hk hc,ih _ _ _ hZ hy⟩,rfl⟩
  case h_8 e a len cap ht=>
   rw[ht] at hZ;simp only[Bool.and_eq_true,decide_eq_true_eq] at hZ;have key:∀i y,((w.cells? 0 (a.add (i*P.cellsOf e)) (P.cellsOf e)).bind (DataW.trod enc P w 0 (fun _=> true) true n e))=some y→
    ((w'.cells? 0 (a.add (i*P.cellsOf e)) (P.cellsOf e)).bind (DataW.trod enc P w' 0 (fun b=> decide (b < w.heap.size)) true n e))=some y∧a.block < w.heap.size:=fun i y hy=> by
    simp only[Option.bind_eq_some_iff] at hy⊢;obtain ⟨c,hc,hy⟩:=hy;refine ⟨⟨c,cells_later hk hc,ih _ _ _ hZ.1 hy⟩,?_⟩;have:=lt_of_cells hc hZ.2;unfold Addr.add at this;split at this <;> simpa using this
   dsimp only at h⊢;split at h
   ·rename_i hc;rw[if_pos hc];simp only[if_true,Option.map_eq_some_iff,Option.bind_eq_some_iff] at h⊢;obtain ⟨elems,h1,rest,h2,rfl⟩:=h;refine ⟨elems,mapM_later _ _ (fun i _ y hy=> (key i y hy).1) h1,rest,?_,rfl⟩;split
    ·exact mapM_later _ _ (fun i _ y hy=> (key _ y hy).1) h2
    ·rename_i hlt;by_cases h0:cap - len=0
     ·rw[h0] at h2;simpa using h2
     ·exfalso;obtain ⟨k,hk0⟩:∃k,cap - len=k+1:=⟨cap - len - 1,by omega⟩;rw[hk0,List.range_succ_eq_map] at h2;simp only[List.mapM_cons,Option.bind_eq_bind,Option.bind_eq_some_iff] at h2;obtain ⟨y,hy,_⟩:=h2;have:=(key (len+0) y (by simpa only[Option.bind_eq_some_iff] using hy)).2;simp[this] at hlt
   ·cases h
  case h_9 fs ht=>
   rw[ht] at hZ;simp only[List.all_eq_true,decide_eq_true_eq] at hZ;split at h
   ·rename_i hc;rw[if_pos hc];simp only[Option.map_eq_some_iff] at h⊢;obtain ⟨ys,h1,rfl⟩:=h;exact ⟨ys,mapM_later _ _ (fun f hf y hy=> ih _ _ _ (hZ f hf) hy) h1,rfl⟩
   ·cases h
  case h_10 n e ht=>
   rw[ht] at hZ;simp only[decide_eq_true_eq] at hZ;split at h
   ·rename_i hc;rw[if_pos hc];simp only[Option.map_eq_some_iff] at h⊢;obtain ⟨ys,h1,rfl⟩:=h;exact ⟨ys,mapM_later _ _ (fun f _ y hy=> ih _ _ _ hZ hy) h1,rfl⟩
   ·cases h
  case h_14 k e b ht=>
   rw[ht] at hZ;simp only[decide_eq_true_eq] at hZ;split at h
   ·rename_i es clock hb;rw[hk b (Array.getElem?_eq_some_iff.1 hb).1,hb];dsimp only at h⊢;split at h
    ·rename_i hc;rw[if_pos hc];simp only[Option.bind_eq_some_iff] at h⊢;obtain ⟨entries,h1,h2⟩:=h;refine ⟨entries,mapM_later _ _ (fun a _ y hy=> ?_) h1,h2⟩;simp only[Option.bind_eq_some_iff] at hy⊢;obtain ⟨key,hk1,hy⟩:=hy;refine ⟨key,hk1,?_⟩;split at hy
     ·rename_i hf;rw[if_pos hf];simp only[Option.map_eq_some_iff] at hy⊢;obtain ⟨z,hz1,rfl⟩:=hy;exact ⟨z,ih _ _ _ hZ hz1,rfl⟩
     ·cases hy
    ·cases h
   ·cases h
  all_goals exact h
theorem Trod_later(hz:∀t,t < N→okAt P N t=true)(hk:∀b,b < w.heap.size→w'.heap[b]? =w.heap[b]?){t:TypeId}{v:Value}{d:DataW H}(hN:t < N)(h:DataW.Trod enc P w 0 (fun _=> true) true t v d p):
 DataW.Trod enc P w' 0 (fun b=> decide (b < w.heap.size)) true t v d p:=by
 obtain ⟨f,h⟩:=h;exact ⟨f,trod_later hz hk f _ _ _ hN h⟩
theorem TrodAll_later(hz:∀t,t < N→okAt P N t=true)(hk:∀b,b < w.heap.size→w'.heap[b]? =w.heap[b]?):
 ∀{ts:List TypeId} {vs:List Value} {ds:List (DataW H)} {p:List MemPlace},(∀t∈ts,t < N)→DataW.TrodAll enc P w 0 (fun _=> true) true ts vs ds p→DataW.TrodAll enc P w' 0 (fun b=> decide (b < w.heap.size)) true ts vs ds p
 | [],[],[],_,_,h=> h
 | _::_,_::_,_::_,_,hN,⟨p,q,h1,h2,h3⟩=> ⟨p,q,Trod_later hz hk (hN _ (by simp)) h1,TrodAll_later hz hk (fun t ht=> hN t (by simp[ht])) h2,h3⟩
end
theorem ok_types:(List.range Tryz.prog.types.size).all (fun t=> okAt Tryz.prog Tryz.prog.types.size t)=true:=by kernel_rfl
theorem ok_all:∀t,t < Tryz.prog.types.size→okAt Tryz.prog Tryz.prog.types.size t=true:=fun t ht=> List.all_eq_true.1 ok_types t (List.mem_range.2 ht)
theorem cells_int:Tryz.prog.cellsOf 3=1:=by kernel_rfl
theorem cells_u8:Tryz.prog.cellsOf 5=1:=by kernel_rfl
theorem cells_hash:Tryz.prog.cellsOf 33=32:=by kernel_rfl
section
variable {H:Type} {enc:TypeId×Value→H} {w:World} {sp:Nat→Bool} {hd:Bool} {base:Nat}
theorem spot_none{b0:Nat}{t e:TypeId}{len cap:Nat}(ht:Tryz.prog.underlying t=some (.slice e))(h:Value.okWide Tryz.prog w r b0 t (.slice (some a) len cap)):a.spot=none:=by simp only[Value.okWide,ht,Cell.okWide,Cell.ok] at h;exact h.2.2.2.1
end
theorem mapM_is{α β:Type}{f:α→Option β}:∀(l:List α),(∀x∈l,∃y,f x=some y)→∃ys,l.mapM f=some ys
 | [],_=> ⟨[],rfl⟩
 | x::l,h=> by obtain ⟨y,hy⟩:=h x (by simp);obtain ⟨ys,hys⟩:=mapM_is l (fun a ha=> h a (by simp[ha]));exact ⟨y::ys,by simp[List.mapM_cons,hy,hys]⟩
theorem u8_wf(b:UInt8):(Lit.int .u8 (b.toNat:Int)).wf=true:=by have:=b.toNat_lt;simp[Lit.wf,IntKind.min,IntKind.max,IntKind.signed,IntKind.bits];omega
theorem hash_lits(d:Nat)(hs:List UInt8)(h:hs.length=32):∃ls,Tryz.prog.keyLits (d+2) 33 (hs.map u8v)=some ls:=by
 unfold Program.keyLits;rw[Tryz.underlying33];simp only[List.length_map,h,cells_hash,if_true];obtain ⟨ys,hy⟩:=mapM_is (f:=fun i=> Tryz.prog.keyLits (d+1) 5 (((hs.map u8v).drop (i*Tryz.prog.cellsOf 5)).take (Tryz.prog.cellsOf 5))) (List.range 32) (fun i hi=> by have hi:=List.mem_range.1 hi;rw[cells_u8,Nat.mul_one,List.drop_eq_getElem_cons (by simpa using (by omega:i < hs.length))];unfold Program.keyLits;rw[Tryz.underlying5];simp[u8_wf])
 exact ⟨ys.flatten,by rw[hy];rfl⟩
theorem guard_hash:Tryz.prog.eqGuardType Tryz.prog.depth 33=false:=by kernel_rfl
theorem key_hash:Tryz.prog.keyTypeAt 5 33=true:=by kernel_rfl
theorem hash_same(hs:List UInt8)(hh:hs.length=32)(w:World):(Op.equalIn 10000 33 (.agg (hs.map u8v).toArray) (.agg (hs.map u8v).toArray)).run Tryz.prog w= .ok true w:=by
 obtain ⟨ls,hl⟩:=hash_lits 0 hs hh;have hf:Value.formed Tryz.prog 33 (.agg (hs.map u8v).toArray)=true:=by unfold Value.formed;rw[Tryz.underlying33,cells_hash];simp[hh]
 obtain ⟨r,h1,h2⟩:=run_equalIn_deep (P:=Tryz.prog) 9995 5 33 key_hash w 2 2 _ _ ls ls hf hf (by simpa[Value.cells] using hl) (by simpa[Value.cells] using hl);rw[h2.2 rfl] at h1;exact h1
section
variable {P:Program} {w:World}
end
def RowsAt{α:Type}(f:α→List Value)(n:Nat)(w:World)(a:Option Addr)(xs:List α):Prop:=∀(i:Nat) (x:α),xs[i]? =some x→∃b o,a=some ⟨b,o,none⟩∧∀(j:Nat) (v:Value),(f x)[j]? =some v→w.cell? ⟨b,o+i*n+j,none⟩=some v
theorem RowsAt.nil{α:Type}(f:α→List Value)(n:Nat)(w:World)(a:Option Addr):RowsAt f n w a []:=fun i x hx=> by cases hx
section
variable {H:Type} {enc:TypeId×Value→H} {w:World}
theorem rows_trod{α:Type}(f:α→List Value)(n:Nat)(P:α→Prop)(x0:α){t e:TypeId}(hu:Tryz.prog.underlying t=some (.slice e))(hn:Tryz.prog.cellsOf e=n)
 (hel:∀(fuel:Nat) (cs:List Value) (y:DataW H×List MemPlace),DataW.trod enc Tryz.prog w 0 (fun _=> true) true fuel e cs=some y→∃x,cs=f x∧P x)
 {b0 fuel:Nat} {c:Value} {y:DataW H×List MemPlace} (hval:Value.okWide Tryz.prog w r b0 t c) (h:DataW.trod enc Tryz.prog w 0 (fun _=> true) true fuel t [c]=some y):
  ∃(a:Option Addr) (cap:Nat) (xs:List α),c= .slice a xs.length cap∧xs.length≤9223372036854775807∧(∀x∈xs,P x)∧RowsAt f n w a xs:=by
  rcases open_slice hu h with ⟨h0,h1⟩ | ⟨a',len',cap',m,_,D,Pl,hcs,_,hl,hm,hmm,hx,hi⟩
  ·simp at h0;subst h0;exact ⟨none,0,[],rfl,by simp,fun x hx=> (by cases hx),RowsAt.nil _ _ _ _⟩
  ·simp at hcs;subst hcs;rw[if_pos rfl] at hmm;subst hmm;have hsp:=spot_none hu hval;rw[hn] at hi;have key:∀i,∃x:α,i < len'→P x∧w.cells? 0 (a'.add (i*n)) n=some (f x):=fun i=> by
    by_cases hlt:i < len'
    ·obtain ⟨cs,hc,ht⟩:=hi i (by omega);obtain ⟨x,rfl,h2⟩:=hel _ _ _ ht;exact ⟨x,fun _=> ⟨h2,hc⟩⟩
    ·exact ⟨x0,fun e=> absurd e hlt⟩
   obtain ⟨g,hgx⟩:=Classical.axiomOfChoice key;have hlen:((List.range len').map g).length=len':=by simp
   refine ⟨some a',m,(List.range len').map g,by rw[hlen],by rw[hlen];have:m≤9223372036854775807:=hm;omega,fun t ht=> ?_,fun i x hxi=> ?_⟩
   ·obtain ⟨i,hi2,rfl⟩:=List.mem_map.1 ht;exact (hgx i (List.mem_range.1 hi2)).1
   ·obtain ⟨h1,h2⟩:=List.getElem?_eq_some_iff.1 hxi;rw[hlen] at h1;simp only[List.getElem_map,List.getElem_range] at h2;subst h2;obtain ⟨e1,e2⟩:=hgx i h1;obtain ⟨_,hl2,hc⟩:=World.cells?_some e2;obtain ⟨b,o,s⟩:=a';simp only at hsp;subst hsp;refine ⟨b,o,rfl,fun j v hv=> ?_⟩;have hj:j < n:=by have:=(List.getElem?_eq_some_iff.1 hv).1;rw[hl2] at this;exact this
    have:=hc j hj;rw[hv] at this;have e:((⟨b,o,none⟩:Addr).add (i*n)).add j=⟨b,o+i*n+j,none⟩:=by unfold Addr.add;split <;> split <;> simp_all
    rw[e] at this;exact this
theorem rows_open{α:Type}(f:α→List Value)(n:Nat)(P:α→Prop)(x0:α){t e:TypeId}(hu:Tryz.prog.underlying t=some (.slice e))(hn:Tryz.prog.cellsOf e=n)
 (hel:∀(fuel:Nat) (cs:List Value) (y:DataW H×List MemPlace),DataW.trod enc Tryz.prog w 0 (fun _=> true) true fuel e cs=some y→∃x,cs=f x∧P x)
 {b0:Nat} {v:Value} {d:DataW H} (hval:Value.okWide Tryz.prog w r b0 t v) (h:DataW.Trod enc Tryz.prog w 0 (fun _=> true) true t v d p):
  ∃(a:Option Addr) (cap:Nat) (xs:List α),v= .slice a xs.length cap∧xs.length≤9223372036854775807∧(∀x∈xs,P x)∧RowsAt f n w a xs:=by
  obtain ⟨a,len,cap,rfl⟩:=okWide_slice hu hval;obtain ⟨fuel,hf⟩:=h;exact rows_trod f n P x0 hu hn hel hval hf
end
end Go.Proofs.YtjnjpgdoncbahaaGreatDoor
