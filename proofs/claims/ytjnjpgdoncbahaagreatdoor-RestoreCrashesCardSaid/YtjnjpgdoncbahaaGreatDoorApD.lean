/- Frames for the walk of Append: plain lemmas. What Append puts: plain law. What stays behind each leaf, and behind each tile, that Append puts: plain lemmas. The tree over any number of leaves, split as the document says; it is what a writer's edges fold to: plain mathematics. What two leaves make of an empty log: plain. -/
import Derived.Test.YtjnjpgdoncbahaaGreatDoorGrT
import Derived.Test.YtjnjpgdoncbahaaGreatDoorTyped3
import Derived.Test.YtjnjpgdoncbahaaGreatDoorDec
import Derived.Test.YtjnjpgdoncbahaaGreatDoorTree
import Derived.Test.YtjnjpgdoncbahaaGreatDoorHab
namespace Go.Proofs.YtjnjpgdoncbahaaGreatDoor
open Go.RowKit Go.Lib
set_option maxRecDepth 20000
variable {G:GrP}{T:TypeId}{ended:Bool}
theorem below_mono{B B':Nat}{w w':World}(h:Below B' w w')(hB:B≤B'):Below B w w':=⟨h.os,h.tape,h.output,h.size,fun k hk=> h.block k (by omega)⟩
theorem Genv.up{B B':Nat}{se:Nat→Addr}{w:World}(h:Genv B se w)(hB:B≤B')(hs:B'≤w.heap.size):Genv B' se w:=
 ⟨h.cell,h.row,h.inj,h.et,fun k h1 h2=> ⟨by have:=(h.low k h1 h2).1;omega,by have:=(h.low k h1 h2).2;omega⟩,by have:=h.lowt;omega,hs⟩
theorem Env.up{B B':Nat}{se:Nat→Addr}{w:World}(h:Env B se w)(hB:B≤B')(hs:B'≤w.heap.size):Env B' se w:=
 ⟨h.g.up hB hs,by have:=h.sg;omega,fun w' k=> h.all w' (below_mono k hB)⟩
theorem BldAt.down{B B':Nat}{w:World}{b:Nat}{lv:Value}{n:Nat}{l:List HB}(h:BldAt B w b lv n l)(hB:B'≤B):BldAt B' w b lv n l:=⟨h.blk,ownLow h.row hB,Nat.le_trans hB h.lo⟩
section
variable {B gb:Nat} {w w':World} {V:GrV} {D:GrD} {S:Nat→Prop}
theorem GrAt.frame(h:GrAt B w gb V D)(u:Upd S w w')(hS:∀g,B≤g→g < w.heap.size→S g→∃c T f,T∉grTys∧w.heap[g]? =some (.cells c T f)):GrAt B w' gb V D:=by
 have hr:∀{e size n:Nat} {v:Value} {xs:List Value},w.ownsRow B e size v n xs→e∈grTys→w'.ownsRow B e size v n xs:=fun hr he=>
  ownsRow_upd hr u (fun g hg hs=> by obtain ⟨c,T,f,hT,hc⟩:=hS g (hr.lt g hg).1 (hr.lt g hg).2 hs;exact rowNe hr hc (fun e2=> hT (e2▸he)) g hg rfl)
 have hb:∀{b:Nat} {cs:Array Value} {t:TypeId} {f:Nat×Nat},B≤b→w.heap[b]? =some (.cells cs t f)→t∈grTys→w'.heap[b]? =some (.cells cs t f):=fun hB hb ht=>
  u.blk hb (fun hs=> by obtain ⟨c,T,f,hT,hc⟩:=hS _ hB (lt_of_blk hb) hs;exact tyNe hb hc (fun e2=> hT (e2▸ht)) rfl)
 exact ⟨h.low,hb h.low h.blk (by decide),⟨hb h.bld.lo h.bld.blk (by decide),hr h.bld.row (by decide),h.bld.lo⟩,hr h.er (by decide),fun k=> hr (h.ee k) (by decide),hr h.dr (by decide),fun k=> hr (h.de k) (by decide),fun k x hx=> hr (h.lh k x hx) (by decide),hr h.tr (by decide),h.len,h.ape,h.apl,h.aph,h.apd⟩
theorem GrAt.moreX{ev' v':Value}{e:List HB}(h:GrAt B w gb V D)(u:Upd S w w')(hS:TysIn S w [153,113])(hb:w'.heap[gb]? =some (.cells #[.pointer (some ⟨V.bb,0,none⟩),ev',V.dv,V.tv] 153 (0,0)))
 (hr:w'.ownsRow B 113 1 ev' (D.es.length+1) (V.vs++ [v'])) (hv:w'.ownsRow B 33 32 v' e.length (hcells e)) (hat:∀g,v'.ownBlock=some g→w.heap.size≤g):GrAt B w' gb {V with ev:=ev',vs:=V.vs++ [v']} {D with es:=D.es++ [e]}:=by
 have hvl:V.vs.length=D.es.length:=by have:=h.er.1;omega
 have get:∀k,(V.vs++ [v']).getD k nilS=if k=V.vs.length then v' else V.vs.getD k nilS:=fun k=> by
  rw[List.getD_eq_getElem?_getD,List.getD_eq_getElem?_getD];rcases Nat.lt_trichotomy k V.vs.length with hk | hk | hk
  ·rw[List.getElem?_append_left hk,if_neg (by omega)]
  ·rw[List.getElem?_append_right (by omega),if_pos hk,hk];simp
  ·rw[List.getElem?_append_right (by omega),if_neg (by omega),List.getElem?_eq_none (l:=V.vs) (by omega),List.getElem?_eq_none (by simp;omega)]
 have gete:∀k,(D.es++ [e]).getD k []=if k=V.vs.length then e else D.es.getD k []:=fun k=> by
  rw[hvl,List.getD_eq_getElem?_getD,List.getD_eq_getElem?_getD];rcases Nat.lt_trichotomy k D.es.length with hk | hk | hk
  ·rw[List.getElem?_append_left hk,if_neg (by omega)]
  ·rw[List.getElem?_append_right (by omega),if_pos hk,hk];simp
  ·rw[List.getElem?_append_right (by omega),if_neg (by omega),List.getElem?_eq_none (l:=D.es) (by omega),List.getElem?_eq_none (by simp;omega)]
 have old:∀k g,(V.vs.getD k nilS).ownBlock=some g→v'.ownBlock≠some g:=fun k g hg e2=> by have h1:=hat g e2;have h2:=((h.ee k).lt g hg).2;omega
 refine ⟨h.low,hb,h.bld.tys u hS (by decide) (by decide),by simpa using hr,fun k=> ?_,own_tys h.dr u hS (by decide),fun k=> own_tys (h.de k) u hS (by decide),fun k x hx=> own_tys (h.lh k x hx) u hS (by decide),own_tys h.tr u hS (by decide),h.len,fun j k g hjk hg=> ?_,fun k g hg=> ?_,fun k x hx g hg=> ⟨(h.aph k x hx g hg).1,fun j=> ?_⟩,h.apd⟩
 ·show w'.ownsRow B 33 32 ((V.vs++ [v']).getD k nilS) ((D.es++ [e]).getD k []).length (hcells ((D.es++ [e]).getD k []));rw[get,gete];by_cases hk:k=V.vs.length
  ·rw[if_pos hk,if_pos hk];exact hv
  ·rw[if_neg hk,if_neg hk];exact own_tys (h.ee k) u hS (by decide)
 ·have hg':((V.vs++ [v']).getD j nilS).ownBlock=some g:=hg;show ((V.vs++ [v']).getD k nilS).ownBlock≠some g;rw[get] at hg'⊢;by_cases hj:j=V.vs.length
  ·rw[if_pos hj] at hg';rw[if_neg (fun e=> hjk (hj.trans e.symm))];exact fun e=> old k g e hg'
  ·rw[if_neg hj] at hg';by_cases hk:k=V.vs.length
   ·rw[if_pos hk];exact old j g hg'
   ·rw[if_neg hk];exact h.ape j k g hjk hg'
 ·show ((V.vs++ [v']).getD k nilS).ownBlock≠some g;rw[get];by_cases hk:k=V.vs.length
  ·rw[if_pos hk];intro e2;have h1:=hat g e2;have h2:=(h.bld.row.lt g hg).2;omega
  ·rw[if_neg hk];exact h.apl k g hg
 ·show ((V.vs++ [v']).getD j nilS).ownBlock≠some g;rw[get];by_cases hj:j=V.vs.length
  ·rw[if_pos hj];intro e2;have h1:=hat g e2;have h2:=((h.lh k x hx).lt g hg).2;omega
  ·rw[if_neg hj];exact (h.aph k x hx g hg).2 j
theorem GrAt.fresh{bb n:Nat}{lv:Value}{l:List HB}(hb:BldAt B w bb lv n l)(hB:B≤w.heap.size):GrAt B (w.alloc (.cells #[.pointer (some ⟨bb,0,none⟩),nilS,nilS,nilS] 153)) w.heap.size ⟨bb,lv,nilS,nilS,nilS,[],[]⟩ ⟨n,l,[],[],[]⟩:=by
 have X:=(Upd.refl none' w).alloc (.cells #[.pointer (some ⟨bb,0,none⟩),nilS,nilS,nilS] 153);have e0:∀k,([]:List Value).getD k nilS=nilS:=fun k=> by simp
 have e1:∀k,([]:List (List HB)).getD k []= []:=fun k=> by simp
 have e2:∀k,([]:List (List LaidD)).getD k []= []:=fun k=> by simp
 refine ⟨hB,blk_alloc _ _,hb.ext X,World.ownsRow_nil _ _ _ _,fun k=> ?_,World.ownsRow_nil _ _ _ _,fun k=> ?_,fun k x hx=> ?_,World.ownsRow_nil _ _ _ _,rfl,fun j k g _ hg=> ?_,fun k g _ e=> ?_,fun k x hx=> ?_,fun j k g _ hg=> ?_⟩
 ·show World.ownsRow _ B _ 32 (([]:List Value).getD k nilS) (([]:List (List HB)).getD k []).length (hcells (([]:List (List HB)).getD k []));rw[e0,e1];exact World.ownsRow_nil _ _ _ _
 ·show World.ownsRow _ B _ 4 (([]:List Value).getD k nilS) (([]:List (List LaidD)).getD k []).length (laidCs (([]:List (List LaidD)).getD k []));rw[e0,e2];exact World.ownsRow_nil _ _ _ _
 ·have hx':x∈([]:List (List LaidD)).getD k []:=hx;rw[e2] at hx';cases hx'
 ·have hg':(([]:List Value).getD j nilS).ownBlock=some g:=hg;rw[e0] at hg';cases hg'
 ·have e':(([]:List Value).getD k nilS).ownBlock=some g:=e;rw[e0] at e';cases e'
 ·have hx':x∈([]:List (List LaidD)).getD k []:=hx;rw[e2] at hx';cases hx'
 ·have hg':(([]:List Value).getD j nilS).ownBlock=some g:=hg;rw[e0] at hg';cases hg'
end
theorem size_edges:(Tryz.prog.info? 37).map (·.size)=some 1:=by kernel_rfl
structure EgAt (B:Nat) (w:World) (ev:Value) (es:List (List HB)) (vs:List Value):Prop where
 er:w.ownsRow B 113 1 ev es.length vs
 ee:∀k,w.ownsRow B 33 32 (vs.getD k nilS) (es.getD k []).length (hcells (es.getD k []))
theorem EgAt.upd{B:Nat}{w w':World}{ev:Value}{es:List (List HB)}{vs:List Value}{S:Nat→Prop}(h:EgAt B w ev es vs)(u:Upd S w w')(hS:∀g,g < w.heap.size→S g→∃o,w.heap[g]? =some o∧∀c f,o≠ .cells c 113 f∧o≠ .cells c 33 f):EgAt B w' ev es vs:=
 ⟨ownsRow_upd h.er u (fun g hg hs=> by
  obtain ⟨o,h1,h2⟩:=hS g (h.er.lt g hg).2 hs;obtain ⟨c,hc⟩:=rowT h.er hg;rw[h1] at hc;exact (h2 c (0,0)).1 (Option.some.inj hc)),fun k=> ownsRow_upd (h.ee k) u (fun g hg hs=> by
  obtain ⟨o,h1,h2⟩:=hS g ((h.ee k).lt g hg).2 hs;obtain ⟨c,hc⟩:=rowT (h.ee k) hg;rw[h1] at hc;exact (h2 c (0,0)).2 (Option.some.inj hc))⟩
theorem EgAt.ext{B:Nat}{w w':World}{ev:Value}{es:List (List HB)}{vs:List Value}(h:EgAt B w ev es vs)(u:Ext w w'):EgAt B w' ev es vs:=h.upd u (fun _ _ hs=> hs.elim)
theorem EgAt.at{B:Nat}{w:World}{A:Option Addr}{c:Nat}{es:List (List HB)}{vs:List Value}(h:EgAt B w (.slice A es.length c) es vs):EdAt w A es:=by
 intro k e he;obtain ⟨hk,rfl⟩:=List.getElem?_eq_some_iff.1 he;have hvl:vs.length=es.length:=by have:=h.er.1;omega
 rcases own_form h.er with ⟨_,h0⟩ | ⟨g,c',h1,_⟩
 ·omega
 ·simp only[Value.slice.injEq,true_and] at h1;obtain ⟨rfl,rfl⟩:=h1;have hc:=h.er.cells (g:=g) rfl k (vs.getD k nilS) (by rw[List.getD_eq_getElem?_getD,List.getElem?_eq_getElem (by omega)];rfl);rw[Addr.add_lit] at hc;have he2:=h.ee k;have hgk:es.getD k []=es[k]:=by rw[List.getD_eq_getElem?_getD,List.getElem?_eq_getElem hk];rfl
  rw[hgk] at he2;obtain ⟨a,cap,hv⟩:=own_sl he2;rw[hv] at he2 hc;refine ⟨g,0,a,cap,rfl,hc,row_capL he2,cells_own he2,?_⟩;rcases own_form he2 with ⟨h3,_⟩ | ⟨g2,c2,h3,_⟩
  ·simp only[Value.slice.injEq] at h3;exact .inl h3.1
  ·simp only[Value.slice.injEq] at h3;exact .inr ⟨g2,0,h3.1⟩
section
variable {P:Program} {ops:Array Oper} {Q:Exit→Act→World→Prop} {a:Act} {w:World} {i:Nat} {o:Oper} {K:Act→World→Prop}
theorem op_storeAggAt(hi:ops[i]? =some o)(hw:Region.wanted o (yielded ops a.tmps)=true)(ty:TypeId)(x y:Operand)(ho:o.op= .store ty x y)
 (g off:Nat) (hx:a.eval x= .pointer (some ⟨g,off,none⟩)) (vs:List Value) (hy:a.eval y= .agg vs.toArray) (hs:(P.info? ty).map (·.size)=some vs.length)
 (cs:List Value) (t:TypeId) (hg:w.heap[g]? =some (.cells cs.toArray t (0,0))) (hfit:off+vs.length≤cs.length) (h1:∀u∈vs,u.oneCell'=true)
 (h:K (a.put o.dst undef) (w.setRow g (over cs off vs).toArray)):wpOp P ops Q i K a w:=by
 unfold wpOp;simp only[hi];rw[if_pos hw];left;have hst:=run_storeCells_at P g off t vs 0 cs.toArray w hg (by simpa using hfit) h1;cases hq:P.info? ty with
 | none=> simp[hq] at hs
 | some it=>
  have hss:it.size=vs.length:=by simpa[hq] using hs
  simp only[Nat.add_zero] at hst;unfold Oper.wp execOp;simp[ho,hx,hy,Instr.storeAt,Instr.sureAddr,storeVar,sizeOf,typeInfo,hq,hss,Value.cells,hst];exact h
end
def LOk(G:GrP):Prop:=∀k,∀t∈G.ls.getD k [],t.1=k∧t.2.1≤65536∧t.2.2.1=256∧t.2.2.2.length=256∧H32 t.2.2.2
theorem pushP_lok{M k i:Nat}{x:HB}(h:LOk G)(ho:okP M G)(hx:x.length=32)(hi:i≤16777216):LOk (pushP k x i G):=by
 have hl:k < (padL G.ls (k+1) []).length:=by rw[padL_len];omega
 unfold pushP;simp only[padL_getD];split
 ·rename_i h256;intro j t ht;have ht:t∈((padL G.ls (k+1) []).set k (G.ls.getD k []++ [(k,i / 256,256,G.es.getD k []++ [x])])).getD j []:=ht;rw[getD_put _ _ _ _ _ hl,padL_getD] at ht;by_cases hj:j=k
  ·rw[if_pos hj] at ht;subst hj;rcases List.mem_append.1 ht with h1 | h1
   ·exact h j t h1
   ·rw[List.mem_singleton.1 h1];exact ⟨rfl,by show i / 256≤65536;omega,rfl,by show (G.es.getD j []++ [x]).length=256;rw[List.length_append,List.length_singleton];exact h256,H32.app (ho.h j).2 (H32.cons hx H32.nil)⟩
  ·rw[if_neg hj] at ht;exact h j t ht
 ·intro j t ht;have ht:t∈(padL G.ls (k+1) []).getD j []:=ht;rw[padL_getD] at ht;exact h j t ht
theorem pushes_lok{M n:Nat}{l:List HB}{y:HB}{G:GrP}(h:LOk G)(ho:okP M G)(hl:H32 l)(hy:y.length=32)(hn:n≤16777216):∀m,(∀k,k < m→8*k≤l.length)→m≤64→LOk (pushes n l y G m)
 | 0,_,_=> h
 | m+1,hm,hm2=> by rw[pushes_succ];exact pushP_lok (pushes_lok h ho hl hy hn m (fun k hk=> hm k (by omega)) (by omega)) (pushes_ok ho hl hy m (fun k hk=> hm k (by omega)) (by omega)) (cr_len32 hl hy _ (hm m (by omega))) (Nat.le_trans (Nat.div_le_self _ _) hn)
theorem addP_lok{n M:Nat}(h:GInv n M G)(hL:LOk G)(hn:n < 1048576){y:HB}(hy:y.length=32):LOk (addP n y G):=by have hs:=step_main nodeH G.es n y h.f;have h20:=ones_20 hn;exact pushes_lok hL h.k (peaksE_32 _ h.h) hy (by omega) _ (fun k hk=> by have:=hs.1;omega) (by omega)
theorem addsP_lok:∀(ys:List HB) {n M:Nat} {G:GrP},GInv n M G→LOk G→n+ys.length≤1048576→H32 ys→LOk (addsP n ys G)
 | [],_,_,_,_,h,_,_=> h
 | y::ys,n,M,G,h,hL,hn,hy=> addsP_lok ys (h.add (by simp at hn;omega) (hy y (by simp))) (addP_lok h hL (by simp at hn;omega) (hy y (by simp))) (by simp at hn;omega) (fun z hz=> hy z (by simp[hz]))
structure TOk (t:LaidP):Prop where
 k:t.1≤2
 i:t.2.1≤65536
 w1:1≤t.2.2.1
 w2:t.2.2.1≤256
 l:t.2.2.2.length=t.2.2.1
 h:H32 t.2.2.2
theorem tiles_ok{n M:Nat}(h:GInv n M G)(hL:LOk G)(hn:n≤16777216):∀t∈tilesP n G G.ts.length,TOk t:=fun t ht=> by
 unfold tilesP at ht;obtain ⟨l,hl,ht2⟩:=List.mem_flatten.1 ht;obtain ⟨k,hk,rfl⟩:=List.mem_map.1 hl;have hk3:k≤2:=by have:=List.mem_range.1 hk;have:=h.t8;omega
 unfold tileK at ht2;rcases List.mem_append.1 ht2 with h1 | h1
 ·obtain ⟨a,b,c,d,e⟩:=hL k t h1;exact ⟨by omega,b,by omega,by omega,by omega,e⟩
 ·split at h1
  ·rename_i hc;rw[List.mem_singleton.1 h1];have h256:=(h.k.h k).1;refine ⟨hk3,?_,?_,?_,rfl,(h.k.h k).2⟩
   ·show n / 2 ^ (8*k) / 256≤65536;have:=Nat.div_le_self n (2 ^ (8*k));omega
   ·show 1≤(G.es.getD k []).length;have:=hc.2;omega
   ·show (G.es.getD k []).length≤256;omega
  ·cases h1
def leafN(k:Nat):ByteArray:=str leafB++str (Lib.decDigits k)
def leafPuts(n:Nat)(ls:List (List UInt8)):List (ByteArray×ByteArray):=(List.range ls.length).map (fun i=> (leafN (n+i),str (ls.getD i [])))
def tileT(t:LaidP):ByteArray×ByteArray:=(str (pathB t.1 t.2.1 t.2.2.1),str t.2.2.2.flatten)
def putsL(r:StD×EV)(ps:List (ByteArray×ByteArray)):StD×EV:=ps.foldl putP r
theorem putsL_snoc(r:StD×EV)(ps:List (ByteArray×ByteArray))(p:ByteArray×ByteArray):putsL r (ps++ [p])=putP (putsL r ps) p:=by unfold putsL;rw[List.foldl_append];rfl
theorem putsL_grow:∀(ps:List (ByteArray×ByteArray)) (r:StD×EV),(putsL r ps).1.nw≤r.1.nw+ps.length∧(putsL r ps).1.texts.length≤r.1.texts.length+ps.length
 | [],r=> ⟨Nat.le_refl _,Nat.le_refl _⟩
 | p::ps,r=> by have h1:=putP_grow r p;have h2:=putsL_grow ps (putP r p);show (putsL (putP r p) ps).1.nw≤_∧(putsL (putP r p) ps).1.texts.length≤_;rw[List.length_cons];omega
theorem leafPuts_snoc(n:Nat)(ls:List (List UInt8))(s:List UInt8):leafPuts n (ls++ [s])=leafPuts n ls++ [(leafN (n+ls.length),str s)]:=by
 unfold leafPuts;rw[List.length_append,List.length_singleton,List.range_succ,List.map_append];congr 1
 ·refine List.map_congr_left fun i hi=> ?_;have:=List.mem_range.1 hi;rw[List.getD_eq_getElem?_getD,List.getD_eq_getElem?_getD,List.getElem?_append_left this]
 ·simp[List.getD_eq_getElem?_getD]
theorem leafPuts_len(n:Nat)(ls:List (List UInt8)):(leafPuts n ls).length=ls.length:=by simp[leafPuts]
def leafHs(ls:List (List UInt8)):List HB:=ls.map leafH
theorem leafHs_32(ls:List (List UInt8)):H32 (leafHs ls):=fun h hh=> by obtain ⟨s,_,rfl⟩:=List.mem_map.1 hh;exact shaB_len _
theorem leafN_size(k:Nat)(hk:k < 18446744073709551616):(leafN k).size≤25:=by
 have h:=dec_len k hk;show (str leafB++str (Lib.decDigits k)).size≤25;rw[ByteArray.size_append,str_size,str_size];have:leafB.length=5:=by rfl
 omega
def appG(n:Nat)(es:List (List HB))(ls:List (List UInt8)):GrP:=addsP n (leafHs ls) (gr0 es)
theorem leafHs_len(ls:List (List UInt8)):(leafHs ls).length=ls.length:=by simp[leafHs]
theorem appG_inv{n:Nat}{es:List (List HB)}{ls:List (List UInt8)}(hf:fitsP n es)(h32:E32 es)(hn:n+ls.length≤1048576):GInv (n+ls.length) (3*ls.length) (appG n es ls):=by have h:=GInv.adds (leafHs ls) (GInv.start hf h32 (by have:=fits_3 hf (by omega);omega)) (by rw[leafHs_len];exact hn) (leafHs_32 ls);rw[leafHs_len,Nat.zero_add] at h;exact h
theorem appG_lok{n:Nat}{es:List (List HB)}{ls:List (List UInt8)}(hf:fitsP n es)(h32:E32 es)(hn:n+ls.length≤1048576):LOk (appG n es ls):=
 addsP_lok (leafHs ls) (GInv.start hf h32 (by have:=fits_3 hf (by omega);omega)) (fun k t ht=> by simp[gr0] at ht) (by rw[leafHs_len];exact hn) (leafHs_32 ls)
structure LfAt (B2 gb q a wb b mb bb n:Nat) (se:Nat→Addr) (tv:Value) (x:StD) (o:List UInt8) (root:HB) (ev:Value) (es:List (List HB)) (ls:List (List UInt8)) (W8:World) (j:Nat) (V:GrV) (D:GrD) (wr:World):Prop where
 cl:ClAt wr q a wb b mb se tv o n root ev (putsL (x,none) (leafPuts n (ls.take j)))
 gr:GrAt B2 wr gb V D
 p:D.p=appG n es (ls.take j)
 n:D.n=n+j
 l:D.l=peaksE nodeH D.es
 bb:V.bb=bb
 u:Upd (fun g=> g=b∨g=mb∨B2≤g) W8 wr
structure LowAt (B2 q a wb b mb:Nat) (tv:Value):Prop where
 a:a < B2
 wb:wb < B2
 b:b < B2
 mb:mb < B2
 tv:∀g,tv.ownBlock=some g→g < B2
 q:B2≤q
theorem GrD.p_es(D:GrD):D.p.es=D.es:=rfl
section
variable {B2 gb q a wb b mb bb n:Nat} {se:Nat→Addr} {tv:Value} {x:StD} {o:List UInt8} {root:HB} {ev:Value} {es:List (List HB)} {ls:List (List UInt8)} {W8 wr:World} {j:Nat} {V:GrV} {D:GrD}
theorem LfAt.inv(h:LfAt B2 gb q a wb b mb bb n se tv x o root ev es ls W8 j V D wr)(hf:fitsP n es)(h32:E32 es)(hj:j≤ls.length)(hn:n+ls.length≤1048576):GInv D.n (3*j) D.p:=by have h1:=appG_inv (ls:=ls.take j) hf h32 (by rw[List.length_take];omega);rw[List.length_take,Nat.min_eq_left hj] at h1;rw[h.p,h.n];exact h1
theorem LfAt.inv32(h:LfAt B2 gb q a wb b mb bb n se tv x o root ev es ls W8 j V D wr)(hf:fitsP n es)(h32:E32 es)(hj:j≤ls.length)(hn:n+ls.length≤1048576):H32 D.l∧ones D.n≤D.l.length∧D.l.length≤64:=by
 have hi:=h.inv hf h32 hj hn;have he:=D.p_es;refine ⟨?_,?_,?_⟩
 ·rw[h.l];exact peaksE_32 _ hi.h
 ·have:=hi.ones;rw[he] at this;rwa [h.l]
 ·have h1:=peaksE_len D.es;have h2:=fits_3 hi.f (by have:=h.n;omega);have h3:D.es.length≤3:=h2;rw[h.l];omega
theorem frame_q{cs:Array Value}{f:Nat×Nat}(L:LowAt B2 q a wb b mb tv){w:World}(hq:w.heap[q]? =some (.cells cs T f))(hT:T∉grTys):∀g,B2≤g→g < w.heap.size→three b mb q g→∃c T f,T∉grTys∧w.heap[g]? =some (.cells c T f):=fun g hB _ hg=> by
 rcases hg with e | e | e
 ·have:=L.b;omega
 ·have:=L.mb;omega
 ·rw[e];exact ⟨_,_,_,hT,hq⟩
theorem errT:24∉grTys:=by decide
theorem ClAt.keeps{w w':World}{r:StD×EV}(L:LowAt B2 q a wb b mb tv)(h:ClAt w q a wb b mb se tv o n root ev r)(u:Upd (fun g=> B2≤g) w w')(k:KeepsG w w'):ClAt w' q a wb b mb se tv o n root ev r:=
 ⟨k _ errT _ _ _ h.ok,u.blk h.box (by have:=L.a;show¬B2≤a;omega),h.wr.upd u (by have:=L.wb;show¬B2≤wb;omega),h.st.upd u (by have:=L.b;show¬B2≤b;omega) (by have:=L.mb;show¬B2≤mb;omega) (fun g hg=> by have:=L.tv g hg;show¬B2≤g;omega)⟩
theorem LfAt.next{w5 w6 w7:World}{s:List UInt8}{V':GrV}{D':GrD}(L:LowAt B2 q a wb b mb tv)(h:LfAt B2 gb q a wb b mb bb n se tv x o root ev es ls W8 j V D wr)(hf:fitsP n es)(h32:E32 es)(hj:j < ls.length)(hn:n+ls.length≤1048576)(hs:s=ls.getD j [])
 (h5:ClAt w5 q a wb b mb se tv o n root ev (putP (putsL (x,none) (leafPuts n (ls.take j))) (leafN (n+j),str s))) (u5:Upd (three b mb q) wr w5) (u6:Ext w5 w6)
 (hg:GrAt B2 w7 gb V' D') (hp:D'.p=pushes D.n D.l (leafH s) D.p (ones D.n / 8+1)) (hn':D'.n=D.n+1) (hl':D'.l=D.l.take (D.l.length - ones D.n)++ [cr nodeH D.l (ones D.n) (leafH s)]) (hbb:V'.bb=V.bb) (u7:Upd (fun g=> B2≤g) w6 w7) (k7:KeepsG w6 w7):
 LfAt B2 gb q a wb b mb bb n se tv x o root ev es ls W8 (j+1) V' D' w7:=by
 have hi:=h.inv hf h32 (by omega) hn;have htk:ls.take (j+1)=ls.take j++ [s]:=by rw[List.take_succ_eq_append_getElem hj,hs,List.getD_eq_getElem?_getD,List.getElem?_eq_getElem hj];rfl
 have hlt:(ls.take j).length=j:=by rw[List.length_take];omega
 have hp2:D'.p=addP D.n (leafH s) D.p:=by rw[hp,h.l];rfl
 refine ⟨?_,hg,?_,by rw[hn',h.n];omega,?_,by rw[hbb,h.bb],?_⟩
 ·rw[htk,leafPuts_snoc,putsL_snoc,hlt];exact (h5.ext u6).keeps L u7 k7
 ·rw[htk];unfold appG;rw[show leafHs (ls.take j++ [s])=leafHs (ls.take j)++ [leafH s] by simp[leafHs],addsP_snoc,leafHs_len,hlt,hp2,h.n,h.p];rfl
 ·have hs2:=step_main nodeH D.p.es D.n (leafH s) hi.f;have he:D'.es=stepE nodeH D.es (leafH s):=by have:=congrArg GrP.es hp2;rw[addP_es D.n (leafH s) D.p hi.f] at this;exact this
  rw[he,hl',h.l];exact hs2.2.1.symm
 ·refine h.u.trans ((u5.mono (fun g _ hg=> ?_)).trans (((Upd.ext u6 _)).trans (u7.mono (fun g _ hg=> .inr (.inr hg)))));rcases hg with e | e | e
  ·exact .inl e
  ·exact .inr (.inl e)
  ·exact .inr (.inr (by rw[e];exact L.q))
end
structure TlAt (B2 gb q a wb b mb n:Nat) (se:Nat→Addr) (tv:Value) (r1:StD×EV) (o:List UInt8) (root:HB) (ev:Value) (W8:World) (V:GrV) (D:GrD) (v:Value) (out:List LaidD) (k:Nat) (wr:World):Prop where
 cl:ClAt wr q a wb b mb se tv o n root ev (putsL r1 ((out.take k).map (fun x=> tileT x.p)))
 gr:GrAt B2 wr gb V D
 tl:wr.ownsRow B2 160 4 v out.length (laidCs out)
 hs:∀x∈out,wr.ownsRow B2 33 32 x.v x.hs.length (hcells x.hs)
 u:Upd (fun g=> g=b∨g=mb∨B2≤g) W8 wr
section
variable {B2 gb q a wb b mb n:Nat} {se:Nat→Addr} {tv:Value} {r1:StD×EV} {o:List UInt8} {root:HB} {ev:Value} {W8 wr:World} {k:Nat} {V:GrV} {D:GrD} {v:Value} {out:List LaidD}
theorem TlAt.ext{w':World}(h:TlAt B2 gb q a wb b mb n se tv r1 o root ev W8 V D v out k wr)(u:Ext wr w'):TlAt B2 gb q a wb b mb n se tv r1 o root ev W8 V D v out k w':=
 ⟨h.cl.ext u,h.gr.ext u,ownsRow_upd h.tl u (fun _ _=> id),fun x hx=> ownsRow_upd (h.hs x hx) u (fun _ _=> id),h.u.trans (Upd.ext u _)⟩
theorem TlAt.next{w5:World}{d:LaidD}(L:LowAt B2 q a wb b mb tv)(h:TlAt B2 gb q a wb b mb n se tv r1 o root ev W8 V D v out k wr)(hk:out[k]? =some d)
 (h5:ClAt w5 q a wb b mb se tv o n root ev (putP (putsL r1 ((out.take k).map (fun x=> tileT x.p))) (tileT d.p))) (u5:Upd (three b mb q) wr w5):TlAt B2 gb q a wb b mb n se tv r1 o root ev W8 V D v out (k+1) w5:=by
 obtain ⟨hlt,hd⟩:=List.getElem?_eq_some_iff.1 hk;have hq:=h.cl.ok;have row:∀{e size m:Nat} {v:Value} {xs:List Value},wr.ownsRow B2 e size v m xs→e≠24→w5.ownsRow B2 e size v m xs:=fun hr he=>
  ownsRow_upd hr u5 (fun g hg hs=> by
   rcases hs with e | e | e
   ·have h1:=(hr.lt g hg).1;have:=L.b;omega
   ·have h1:=(hr.lt g hg).1;have:=L.mb;omega
   ·exact rowNe hr hq he g hg e)
 refine ⟨?_,h.gr.frame u5 (frame_q L hq errT),row h.tl (by decide),fun x hx=> row (h.hs x hx) (by decide),h.u.trans (u5.mono (fun g _ hg=> ?_))⟩
 ·rw[List.take_succ_eq_append_getElem hlt,List.map_append,List.map_cons,List.map_nil,putsL_snoc,hd];exact h5
 ·rcases hg with e | e | e
  ·exact .inl e
  ·exact .inr (.inl e)
  ·exact .inr (.inr (by rw[e];exact L.q))
end
theorem laidCs_get:∀{out:List LaidD} {k:Nat} {d:LaidD},out[k]? =some d→∀(i:Nat) (v:Value),(laidC d)[i]? =some v→(laidCs out)[k*4+i]? =some v
 | [],k,d,h,_,_,_=> by simp at h
 | a::l,0,d,h,i,v,hv=> by
  have e:a=d:=by simpa using h
  subst e;show ((laidC a)++laidCs l)[0*4+i]? =some v;rw[Nat.zero_mul,Nat.zero_add,List.getElem?_append_left (List.getElem?_eq_some_iff.1 hv).1];exact hv
 | a::l,k+1,d,h,i,v,hv=> by show ((laidC a)++laidCs l)[(k+1)*4+i]? =some v;have hl:(laidC a).length=4:=rfl;rw[show (k+1)*4+i=4+(k*4+i) by omega,List.getElem?_append_right (by omega),hl,show 4+(k*4+i) - 4=k*4+i by omega];exact laidCs_get (by simpa using h) i v hv
theorem tilesP_len{M n:Nat}{G:GrP}(h:∀k,(G.ls.getD k []).length≤M):∀T,(tilesP n G T).length≤T*(M+1)
 | 0=> by simp[tilesP]
 | T+1=> by
  have h1:=tilesP_len (n:=n) h T;have h2:(tileK n G T).length≤M+1:=by unfold tileK;rw[List.length_append];refine Nat.add_le_add (h T) ?_;split <;> simp
  unfold tilesP at h1⊢;rw[List.range_succ,List.map_append,List.flatten_append,List.length_append];simp only[List.map_cons,List.map_nil,List.flatten_cons,List.flatten_nil,List.append_nil];rw[Nat.succ_mul];omega
theorem grpF_len:∀(n:Nat) (l:List UInt8),(grpF n l).length≤3*l.length
 | 0,l=> by unfold grpF;omega
 | n+1,l=> by
  unfold grpF;split
  ·omega
  ·have h:=grpF_len n (l.drop 3);rw[List.length_drop] at h;simp only[List.length_cons,List.length_append,List.length_take];omega
theorem pathB_len(k i w:Nat)(hk:k≤65536)(hi:i≤65536)(hw:w≤65536):(pathB k i w).length≤200:=by
 have h1:=dec_len k (by omega);have h2:=dec_len i (by omega);have h3:=dec_len w (by omega);have h4:=grpF_len (pad3 (Go.Lib.decDigits i)).length (pad3 (Go.Lib.decDigits i));have h5:(pad3 (Go.Lib.decDigits i)).length≤(Go.Lib.decDigits i).length+2:=by unfold pad3;rw[List.length_append,List.length_replicate];omega
 have h6:(if w < 256 then [46,112,47]++Go.Lib.decDigits w else ([]:List UInt8)).length≤23:=by
  split
  ·simp only[List.length_append,List.length_cons,List.length_nil];omega
  ·simp
 have h7:tileB.length≤5:=by decide
 unfold pathB grp;simp only[List.length_append,List.length_cons,List.length_nil] at h6⊢;omega
theorem foldP_len{l:List HB}(h:H32 l):(foldP l).length=32:=by
 unfold foldP;split
 ·exact emptyH_len
 ·rename_i h0;have hl:0 < l.length:=by
   cases l with
   | nil=> exact absurd rfl h0
   | cons a t=> simp
  exact cr_len32 (fun x hx=> h x (List.mem_of_mem_take hx)) (h.getD _ (by omega)) _ (by rw[List.length_take];omega)
theorem putsL_append(r:StD×EV)(a b:List (ByteArray×ByteArray)):putsL r (a++b)=putsL (putsL r a) b:=by unfold putsL;rw[List.foldl_append]
abbrev zckA:Array Value:=#[.string ⟨#[]⟩,.int .u64 0,.int .u8 0,.int .u8 0,.int .u8 0,.int .u8 0,.int .u8 0,.int .u8 0,.int .u8 0,.int .u8 0,.int .u8 0,.int .u8 0,.int .u8 0,.int .u8 0,.int .u8 0,.int .u8 0,.int .u8 0,.int .u8 0,.int .u8 0,.int .u8 0,.int .u8 0,.int .u8 0,.int .u8 0,.int .u8 0,.int .u8 0,.int .u8 0,.int .u8 0,.int .u8 0,.int .u8 0,.int .u8 0,.int .u8 0,.int .u8 0,.int .u8 0,.int .u8 0,.slice none 0 0]
theorem zck_zero:(Tryz.prog.info? 36).bind (·.zero)=some (.agg zckA):=by kernel_rfl
def PZ(m:Nat)(v:Value)(w:World):Prop:=∃g,m≤g∧v= .pointer (some ⟨g,0,none⟩)∧w.heap[g]? =some (.cells zckA 36 (0,0))
theorem pz_lasts(m:Nat):Lasts (PZ m):=fun _ _ _ ⟨g,h0,h1,h2⟩ u=> ⟨g,h0,h1,Ext.blk u h2⟩
theorem wr_put(sp:Value)(C:List Value)(u v:Value)(hC:C.length=35)(v':Value):(sp::(C++ [u,v])).toArray.setIfInBounds 37 v'=(sp::(C++ [u,v'])).toArray∧(sp::(C++ [u,v])).toArray.setIfInBounds 36 v'=(sp::(C++ [v',v])).toArray:=by
 constructor
 ·rw[List.setIfInBounds_toArray,show (37:Nat)=36+1 from rfl,List.set_cons_succ,List.set_append_right _ _ (by omega),hC];rfl
 ·rw[List.setIfInBounds_toArray,show (36:Nat)=35+1 from rfl,List.set_cons_succ,List.set_append_right _ _ (by omega),hC];rfl
theorem wr_over(sp:Value)(C C':List Value)(u v:Value)(hC:C.length=35)(hC':C'.length=35):over (sp::(C++ [u,v])) 1 C'=sp::(C'++ [u,v]):=by unfold over;rw[show (1:Nat)=0+1 from rfl,List.take_succ_cons,List.take_zero,show 0+1+C'.length=C'.length+1 by omega,List.drop_succ_cons,hC',List.drop_left' hC];simp
theorem WrAt.ends{w:World}{wb:Nat}{sp:Value}{o:List UInt8}{n:Nat}{root:HB}{ev:Value}(h:WrAt w wb sp o n root ev ended)(hr:root.length=32):WrAt (w.setCell ⟨wb,37,none⟩ (.bool true)) wb sp o n root ev true:=
 ⟨by have:=blk_set h.blk 37 (.bool true);unfold wrC at this⊢;rwa [(wr_put sp (ckC o n root) ev (.bool ended) (ck_len o n root hr) (.bool true)).1] at this⟩
theorem WrAt.setCk{w:World}{wb:Nat}{sp:Value}{o:List UInt8}{n:Nat}{root:HB}{ev:Value}(h:WrAt w wb sp o n root ev ended)(hr:root.length=32)(o':List UInt8)(n':Nat)(root':HB)(hr':root'.length=32):WrAt (w.setRow wb (over (wrC sp o n root ev ended) 1 (ckC o' n' root')).toArray) wb sp o' n' root' ev ended:=
 ⟨by have:=blk_setRow h.blk (over (wrC sp o n root ev ended) 1 (ckC o' n' root')).toArray;rw[show over (wrC sp o n root ev ended) 1 (ckC o' n' root')=wrC sp o' n' root' ev ended from wr_over sp _ _ ev (.bool ended) (ck_len o n root hr) (ck_len o' n' root' hr')] at this⊢;exact this⟩
theorem WrAt.setEv{w:World}{wb:Nat}{sp:Value}{o:List UInt8}{n:Nat}{root:HB}{ev:Value}(h:WrAt w wb sp o n root ev ended)(hr:root.length=32)(ev':Value):WrAt (w.setCell ⟨wb,36,none⟩ ev') wb sp o n root ev' ended:=
 ⟨by have:=blk_set h.blk 36 ev';unfold wrC at this⊢;rwa [(wr_put sp (ckC o n root) ev (.bool ended) (ck_len o n root hr) ev').2] at this⟩
theorem run_storeAggAt{P:Program}{o:Oper}{a:Act}{w:World}(ty:TypeId)(x y:Operand)(ho:o.op= .store ty x y)(g off:Nat)(hx:a.eval x= .pointer (some ⟨g,off,none⟩))(vs:List Value)(hy:a.eval y= .agg vs.toArray)(hs:(P.info? ty).map (·.size)=some vs.length)
 (cs:List Value) (t:TypeId) (hg:w.heap[g]? =some (.cells cs.toArray t (0,0))) (hfit:off+vs.length≤cs.length) (h1:∀u∈vs,u.oneCell'=true):(execOp a.eval o).run P w= .ok .skip (w.setRow g (over cs off vs).toArray):=by
 have hst:=run_storeCells_at P g off t vs 0 cs.toArray w hg (by simpa using hfit) h1;cases hq:P.info? ty with
 | none=> simp[hq] at hs
 | some it=>
  have hss:it.size=vs.length:=by simpa[hq] using hs
  simp only[Nat.add_zero] at hst;unfold execOp;simp[ho,hx,hy,Instr.storeAt,Instr.sureAddr,storeVar,sizeOf,typeInfo,hq,hss,Value.cells,hst];rfl
theorem run_zck(w:World):(Instr.build 36 #[]).run Tryz.prog w= .ok (.agg (ckC [] 0 z32B).toArray) w:=by go_simp;rfl
theorem not_eg{cs:Array Value}{f:Nat×Nat}(h1:T≠113)(h2:T≠33):∀(c:Array Value) (f':Nat×Nat),Obj.cells cs T f≠ .cells c 113 f'∧Obj.cells cs T f≠ .cells c 33 f':=fun c f'=>
 ⟨fun e=> h1 (by injection e),fun e=> h2 (by injection e)⟩
theorem EgAt.one{B:Nat}{w w':World}{ev:Value}{es:List (List HB)}{vs:List Value}{b:Nat}{cs:Array Value}{f:Nat×Nat}(h:EgAt B w ev es vs)(u:Upd (one b) w w')(hb:w.heap[b]? =some (.cells cs T f))(h1:T≠113)(h2:T≠33):EgAt B w' ev es vs:=
 h.upd u (fun g _ hs=> ⟨_,(congrArg (fun k=> w.heap[k]?) (show g=b from hs)).trans hb,not_eg h1 h2⟩)
structure A37 (a wb b cg:Nat) (C:List Value) (w:World):Prop where
 fb:w.cell? ⟨a,0,none⟩=some (.pointer (some ⟨wb,0,none⟩))
 fs:w.cell? ⟨wb,0,none⟩=some (.pointer (some ⟨b,0,none⟩))
 fc:∀j v,C[j]? =some v→w.cell? ⟨cg,0+j,none⟩=some v
theorem A37.upd{S:Nat→Prop}{a wb b cg:Nat}{C:List Value}{w w':World}(h:A37 a wb b cg C w)(u:Upd S w w')(h1:¬S a)(h2:¬S wb)(h3:¬S cg):A37 a wb b cg C w':=
 ⟨(u.cell (lt_of_cell h.fb) h1).trans h.fb,(u.cell (lt_of_cell h.fs) h2).trans h.fs,fun j v hv=> (u.cell (lt_of_cell (h.fc j v hv)) h3).trans (h.fc j v hv)⟩
theorem body_puts:hasBody Tryz.prog 62=true:=by kernel_rfl
theorem GrAt.eg{B B2 gb:Nat}{w:World}{V:GrV}{D:GrD}(h:GrAt B2 w gb V D)(hB:B≤B2):EgAt B w V.ev D.es V.vs:=⟨ownLow h.er hB,fun k=> ownLow (h.ee k) hB⟩
theorem StAt.mb_eg{w:World}{b mb:Nat}{tv:Value}{x:StD}(h:StAt w b mb tv x):∃o,w.heap[mb]? =some o∧∀c f,o≠ .cells c 113 f∧o≠ .cells c 33 f:=by obtain ⟨es,c,hmb⟩:=h.tex.blk;exact ⟨_,hmb,fun c f=> ⟨nofun,nofun⟩⟩
def rootE(es:List (List HB)):HB:=foldP (peaksE nodeH es)
def appPuts(n:Nat)(es:List (List HB))(ls:List (List UInt8)):List (ByteArray×ByteArray):=leafPuts n ls++(tilesP (n+ls.length) (appG n es ls) (appG n es ls).ts.length).map tileT
def appR(x:StD)(o:List UInt8)(n:Nat)(es:List (List HB))(ls:List (List UInt8)):StD×EV:=putP (putsL (x,none) (appPuts n es ls)) (str headB,str (ckptB o (n+ls.length) (rootE (appG n es ls).es)))
theorem foldP_one(x:HB):foldP [x]=x:=by unfold foldP;rw[if_neg (by simp)];rfl
theorem foldP_cons(p:HB)(ps:List HB)(h:ps≠ []):foldP (p::ps)=nodeH p (foldP ps):=by
 obtain ⟨n,hn⟩:∃n,ps.length=n+1:=⟨ps.length - 1,by have:=List.length_pos_iff.2 h;omega⟩;unfold foldP;rw[if_neg (by simp),if_neg h];have e1:(p::ps).length - 1=n+1:=by simp[hn]
 have e2:ps.length - 1=n:=by omega
 rw[e1,e2,List.take_succ_cons,List.getD_cons_succ];have h2:=cr_cons_all nodeH p (ps.take n) (ps.getD n []);rw[List.length_take,show min n ps.length=n by omega] at h2;exact h2
theorem pkD_up:∀(j i:Nat) (l:List HB),l.length < 2 ^ j→pkD nodeH (j+i) l=pkD nodeH j l
 | j,0,l,h=> rfl
 | j,i+1,l,h=> by have h1:2 ^ j≤2 ^ (j+i):=Nat.pow_le_pow_right (by decide) (by omega);rw[←Nat.add_assoc,pkD,if_neg (by omega)];exact pkD_up j i l h
theorem pkD_any{j i:Nat}{l:List HB}(hj:l.length < 2 ^ j)(hi:l.length < 2 ^ i):pkD nodeH j l=pkD nodeH i l:=by
 rcases Nat.le_total i j with h | h
 ·obtain ⟨k,rfl⟩:=Nat.le.dest h;exact pkD_up i k l hi
 ·obtain ⟨k,rfl⟩:=Nat.le.dest h;exact (pkD_up j k l hj).symm
theorem pkD_ne:∀(j:Nat) (l:List HB),0 < l.length→l.length < 2 ^ j→pkD nodeH j l≠ []
 | 0,l,h,h2=> by simp at h2;subst h2;simp at h
 | j+1,l,h,h2=> by
  rw[pkD];split
  ·simp
  ·exact pkD_ne j l h (by omega)
def mthP(l:List HB):HB:=foldP (pkD nodeH l.length l)
theorem mth_eq{l:List HB}(j:Nat)(h:l.length < 2 ^ j):mthP l=foldP (pkD nodeH j l):=by unfold mthP;rw[pkD_any Nat.lt_two_pow_self h]
theorem mth_nil:mthP []=emptyH:=rfl
theorem mth_one(x:HB):mthP [x]=x:=by rw[mth_eq 1 (by simp),pkD,if_pos (by simp),pkD];exact foldP_one x
theorem mth_pow(t:Nat)(l:List HB)(h:l.length=2 ^ t):mthP l=whole nodeH t l:=by rw[mth_eq (t+1) (by rw[h];exact Nat.pow_lt_pow_right (by decide) (Nat.lt_succ_self t)),pkD,if_pos (by omega),List.take_of_length_le (by omega),List.drop_of_length_le (by omega),pk_nil];exact foldP_one _
theorem mth_split(t:Nat)(l:List HB)(h1:2 ^ t < l.length)(h2:l.length≤2 ^ (t+1)):mthP l=nodeH (mthP (l.take (2 ^ t))) (mthP (l.drop (2 ^ t))):=by
 have hp:2 ^ (t+1)=2 ^ t+2 ^ t:=by rw[Nat.pow_succ];omega
 have ht:(l.take (2 ^ t)).length=2 ^ t:=by rw[List.length_take];omega
 rw[mth_pow t _ ht];rcases Nat.lt_or_ge l.length (2 ^ (t+1)) with h | h
 ·have hd:(l.drop (2 ^ t)).length < 2 ^ t:=by rw[List.length_drop];omega
  rw[mth_eq (t+1) h,pkD,if_pos (by omega),foldP_cons _ _ (pkD_ne t _ (by rw[List.length_drop];omega) hd),←mth_eq t hd]
 ·rw[mth_pow (t+1) l (by omega),mth_pow t (l.drop (2 ^ t)) (by rw[List.length_drop];omega)];rfl
theorem peaks_main(j:Nat):∀(m:Nat) (L:List HB),L.length=m→L.length < 2 ^ j→peaksE nodeH (L.foldl (stepE nodeH) [])=pkD nodeH j L
 | 0,L,hm,_=> by obtain rfl:=List.length_eq_zero_iff.1 hm;rw[pk_nil];rfl
 | m+1,L,hm,hj=> by
  have hne:L≠ []:=by intro e;rw[e] at hm;simp at hm
  obtain ⟨M,h,rfl⟩:∃M h,L=M++ [h]:=⟨L.dropLast,L.getLast hne,(List.dropLast_concat_getLast hne).symm⟩;have hl:M.length=m:=by simpa using hm
  have hj':M.length+1 < 2 ^ j:=by simpa using hj
  have ih:=peaks_main j m M hl (by omega);have hf:fitsP M.length (M.foldl (stepE nodeH) []):=by have h9:=foldl_fits nodeH M [] 0 rfl;rwa [Nat.zero_add] at h9
  rw[List.foldl_append,List.foldl_cons,List.foldl_nil,(step_main nodeH _ _ h hf).2.1,(pk_step nodeH j M h hj').2,ih]
theorem root_mth(L:List HB):rootE (L.foldl (stepE nodeH) [])=mthP L:=by unfold rootE mthP;rw[peaks_main L.length L.length L rfl Nat.lt_two_pow_self]
def oL:List UInt8:= [108,111,103]
theorem has_none(zs:List Int)(c:Int)(k n:Nat)(d:Bool):hasB ⟨[],zs,c,k,n,d⟩=false:=by
 unfold hasB;have h:namesL []= []:=by unfold namesL;simp
 rw[h];decide+kernel
theorem name_log:nameB oL=true:=by decide+kernel
end Go.Proofs.YtjnjpgdoncbahaaGreatDoor
