/- Hashes compared: equal just if their bytes are. Nothing of a statement. Tiles compared: equal just if their numbers are. Arguments of layer 26's laws, opened: leaves and numbers, with their bulk. What the cell 'laid' of a writer's row gives: the sentinels, the handle, and the tables of strconv, bits, utf8, text and sha. A world for the witnesses. -/
import Derived.Test.YtjnjpgdoncbahaaGreatDoorArgs
import Derived.Test.YtjnjpgdoncbahaaGreatDoorShaD
import Derived.Test.YtjnjpgdoncbahaaGreatDoorNaive
import Derived.Test.YtjnjpgdoncbahaaGreatDoorTxt
import Derived.Test.YtjnjpgdoncbahaaGreatDoorStore
import Derived.Test.YtjnjpgdoncbahaaGreatDoorLaid
import Derived.Test.YtjnjpgdoncbahaaGreatDoorRows
import Derived.Test.YtjnjpgdoncbahaaGreatDoorWrA
import Derived.Lib.LaidTab
import Derived.Lib.LaidU8T
import Derived.LaidSub
namespace Go.Proofs.YtjnjpgdoncbahaaGreatDoor
open Go.ChangeShapes Go.WideShapes Go.ChangeAt Go.RowKit Go.Lib Go.Deep
set_option maxRecDepth 20000
variable {n:String}{x y:Operand}
theorem mapM_eq{α β:Type}{f:α→Option β}{g:α→β}:∀(l:List α),(∀x∈l,f x=some (g x))→l.mapM f=some (l.map g)
 | [],_=> rfl
 | x::l,h=> by rw[List.mapM_cons,h x (by simp),mapM_eq l (fun a ha=> h a (by simp[ha]))];rfl
def litU(b:UInt8):Lit:= .int .u8 (b.toNat:Int)
theorem flat_one{α β:Type}(g:α→β):∀(l:List α),(l.map (fun x=> [g x])).flatten=l.map g
 | []=> rfl
 | x::l=> by rw[List.map_cons,List.flatten_cons,flat_one g l];rfl
theorem hash_litsE(d:Nat)(hs:List UInt8)(h:hs.length=32):Tryz.prog.keyLits (d+2) 33 (hs.map u8v)=some (hs.map litU):=by
 unfold Program.keyLits;rw[Tryz.underlying33];simp only[List.length_map,h,cells_hash,if_true];rw[mapM_eq (g:=fun i=> [litU (hs.getD i 0)]) (List.range 32) (fun i hi=> by
  have hi:=List.mem_range.1 hi;rw[cells_u8,Nat.mul_one,List.drop_eq_getElem_cons (by simpa using (by omega:i < hs.length))];unfold Program.keyLits;rw[Tryz.underlying5];have hg:hs[i]?.getD 0=hs[i]'(by omega):=by rw[List.getElem?_eq_getElem (by omega)];rfl
  simp[u8_wf,litU,hg])]
 simp only[Option.map_some,Option.some.injEq];rw[flat_one (fun i=> litU (hs.getD i 0))];refine List.ext_getElem (by simp[h]) fun i h1 h2=> ?_;have h3:i < hs.length:=by simp at h1;omega
 simp[List.getD_eq_getElem?_getD,List.getElem?_eq_getElem h3]
theorem litU_inj:∀{x y:List UInt8},x.map litU=y.map litU→x=y
 | [],[],_=> rfl
 | [],_::_,h=> by simp at h
 | _::_,[],h=> by simp at h
 | a::x,b::y,h=> by simp only[List.map_cons,List.cons.injEq,litU,Lit.int.injEq,true_and] at h;have h1:a=b:=UInt8.toNat_inj.1 (by have:=h.1;omega);have h2:x=y:=litU_inj (x:=x) (y:=y) h.2;rw[h1,h2]
theorem hash_formed(hs:List UInt8)(hh:hs.length=32):Value.formed Tryz.prog 33 (hashV hs)=true:=by unfold Value.formed;rw[Tryz.underlying33,cells_hash];simp[hh]
theorem hash_cmp(x y:List UInt8)(hx:x.length=32)(hy:y.length=32)(w:World):(Op.equalIn 10000 33 (hashV x) (hashV y)).run Tryz.prog w= .ok (decide (x=y)) w:=by
 obtain ⟨r,h1,h2⟩:=run_equalIn_deep (P:=Tryz.prog) 9995 5 33 key_hash w 2 2 _ _ (x.map litU) (y.map litU) (hash_formed x hx) (hash_formed y hy) (by simpa[Value.cells] using hash_litsE 0 x hx) (by simpa[Value.cells] using hash_litsE 0 y hy);have hr:r=decide (x=y):=by
  by_cases e:x=y
  ·rw[decide_eq_true e];exact h2.2 (by rw[e])
  ·rw[decide_eq_false e];cases r with
   | false=> rfl
   | true=> exact absurd (litU_inj (h2.1 rfl)) e
 rw[hr] at h1;exact h1
section
variable {P:Program} {o:Oper} {a:Act} {w:World}
theorem run_eqlAgg{ty tr:TypeId}(ho:o.op= .binOp .eql ty x y tr)(cs ds:Array Value)(b:Bool)(hx:a.eval x= .agg cs)(hy:a.eval y= .agg ds)(hm:P.eqGuardType P.depth ty=false)(h:(Op.equalIn 10000 ty (.agg cs) (.agg ds)).run P w= .ok b w):(execOp a.eval o).run P w= .ok (.value (.bool b)) w:=by unfold execOp;simp only[ho,hx,hy,Sem.run_bind,run_eqGuard_agg w _ _ _ _ _ _ hm,run_eql_struct,h,Result.andThen_ok,Sem.run_pure]
theorem run_neqAgg{ty tr:TypeId}(ho:o.op= .binOp .neq ty x y tr)(cs ds:Array Value)(b:Bool)(hx:a.eval x= .agg cs)(hy:a.eval y= .agg ds)(hm:P.eqGuardType P.depth ty=false)(h:(Op.equalIn 10000 ty (.agg cs) (.agg ds)).run P w= .ok b w):(execOp a.eval o).run P w= .ok (.value (.bool (!b))) w:=by unfold execOp;simp only[ho,hx,hy,Sem.run_bind,run_eqGuard_agg w _ _ _ _ _ _ hm,run_neq_struct,h,Result.andThen_ok,Sem.run_pure]
end
theorem run_eqlH{o:Oper}{a:Act}(w:World){tr:TypeId}(ho:o.op= .binOp .eql 33 x y tr)(p q:List UInt8)(hx:a.eval x=hashV p)(hy:a.eval y=hashV q)(hp:p.length=32)(hq:q.length=32):(execOp a.eval o).run Tryz.prog w= .ok (.value (.bool (decide (p=q)))) w:=
 run_eqlAgg (P:=Tryz.prog) ho (p.map u8v).toArray (q.map u8v).toArray (decide (p=q)) hx hy guard_hash (hash_cmp p q hp hq w)
theorem run_neqH{o:Oper}{a:Act}(w:World){tr:TypeId}(ho:o.op= .binOp .neq 33 x y tr)(p q:List UInt8)(hx:a.eval x=hashV p)(hy:a.eval y=hashV q)(hp:p.length=32)(hq:q.length=32):(execOp a.eval o).run Tryz.prog w= .ok (.value (.bool (!decide (p=q)))) w:=
 run_neqAgg (P:=Tryz.prog) ho (p.map u8v).toArray (q.map u8v).toArray (decide (p=q)) hx hy guard_hash (hash_cmp p q hp hq w)
theorem wpList_runG{P:Program}{ops:Array Oper}{rest:List Oper}{o:Oper}{a:Act}{Q:Exit→Act→World→Prop}{w w':World}{v:Value}(hw:Region.wanted o (yielded ops a.tmps)=true)(hr:(execOp a.eval o).run P w= .ok (.value v) w')(h:wpList P ops Q rest (a.put o.dst v) w'):wpList P ops Q (o::rest) a w:=by refine wpList_step fun K hK=> ?_;rw[if_pos hw];unfold Oper.wp;rw[hr];exact hK _ _ h
section
variable {H:Type} {enc:TypeId×Value→H} {w:World}
theorem bulk_pos(d:DataW H):1≤Rows.uptoBulk d:=by
 cases d with
 | lit l=> cases l <;> simp[Rows.uptoBulk]
 | _=> simp[Rows.uptoBulk]
theorem bulk_mem:∀(l:List (DataW H)) (d:DataW H),d∈l→Rows.uptoBulk d≤Rows.uptoBulkAll l
 | d'::l,d,h=> by
  simp only[Rows.uptoBulkAll];rcases List.mem_cons.1 h with rfl | h
  ·omega
  ·have:=bulk_mem l d h;omega
theorem bulk_len:∀(l:List (DataW H)),l.length≤Rows.uptoBulkAll l
 | []=> by simp
 | d::l=> by have:=bulk_len l;have:=bulk_pos d;simp only[Rows.uptoBulkAll,List.length_cons];omega
theorem rows_trodB{α:Type}(f:α→List Value)(n:Nat)(hn0:0 < n)(P:α→DataW H→Prop)(x0:α){t e:TypeId}(hu:Tryz.prog.underlying t=some (.slice e))(hn:Tryz.prog.cellsOf e=n)
 (hel:∀(fuel:Nat) (cs:List Value) (y:DataW H×List MemPlace),DataW.trod enc Tryz.prog w 0 (fun _=> true) true fuel e cs=some y→∃x,cs=f x∧P x y.1)
 {fuel:Nat} {c:Value} {y:DataW H×List MemPlace} (h:DataW.trod enc Tryz.prog w 0 (fun _=> true) true fuel t [c]=some y):
 ∃(a:Option Addr) (cap:Nat) (xs:List α),c= .slice a xs.length cap∧xs.length≤9223372036854775807∧RowsAt f n w a xs∧xs.length≤Rows.uptoBulk y.1∧(∀x∈xs,∃d,P x d∧Rows.uptoBulk d≤Rows.uptoBulk y.1)∧∃D:Nat→DataW H,(∀i x,xs[i]? =some x→P x (D i))∧Rows.uptoBulkAll ((List.range xs.length).map D)+1≤Rows.uptoBulk y.1:=by
 rcases open_slice hu h with ⟨h0,h1⟩ | ⟨a',len',cap',m,_,D,Pl,hcs,_,hl,hm,hmm,hx,hi⟩
 ·simp at h0;subst h0;exact ⟨none,0,[],rfl,by simp,RowsAt.nil _ _ _ _,by simp,fun x hx=> (by cases hx),fun _=> y.1,fun i x hx=> (by cases hx),by have:=bulk_pos y.1;simp[Rows.uptoBulkAll];omega⟩
 ·simp at hcs;subst hcs;rw[if_pos rfl] at hmm;subst hmm;rw[hn] at hi;have key:∀i,∃x:α,i < len'→P x (D i)∧w.cells? 0 (a'.add (i*n)) n=some (f x):=fun i=> by
   by_cases hlt:i < len'
   ·obtain ⟨cs,hc,ht⟩:=hi i (by omega);obtain ⟨x,rfl,h2⟩:=hel _ _ _ ht;exact ⟨x,fun _=> ⟨h2,hc⟩⟩
   ·exact ⟨x0,fun e=> absurd e hlt⟩
  obtain ⟨g,hgx⟩:=Classical.axiomOfChoice key;have hlen:((List.range len').map g).length=len':=by simp
  have hB:∀i,i < len'→Rows.uptoBulk (D i)≤Rows.uptoBulk y.1:=fun i hi2=> by rw[hx];simp only[Rows.uptoBulk];have:=bulk_mem ((List.range len').map D) (D i) (List.mem_map.2 ⟨i,List.mem_range.2 hi2,rfl⟩);omega
  refine ⟨some a',m,(List.range len').map g,by rw[hlen],by rw[hlen];have:m≤9223372036854775807:=hm;omega,fun i x hxi=> ?_,?_,fun x hx2=> ?_,D,fun i x hxi=> ?_,?_⟩
  ·obtain ⟨h1,h2⟩:=List.getElem?_eq_some_iff.1 hxi;rw[hlen] at h1;simp only[List.getElem_map,List.getElem_range] at h2;subst h2;obtain ⟨e1,e2⟩:=hgx i h1;obtain ⟨_,hl2,hc⟩:=World.cells?_some e2;have hsn:a'.spot=none:=by obtain ⟨_,z2⟩:=hgx 0 (by omega);obtain ⟨_,hz,hzc⟩:=World.cells?_some z2;have c0:=hzc 0 hn0;rw[List.getElem?_eq_getElem (by omega)] at c0;have hsp:=World.cell?_spot c0;simpa[Addr.add] using hsp
   obtain ⟨b,o,s⟩:=a';simp only at hsn;subst hsn;refine ⟨b,o,rfl,fun j v hv=> ?_⟩;have hj:j < n:=by have:=(List.getElem?_eq_some_iff.1 hv).1;rw[hl2] at this;exact this
   have:=hc j hj;rw[hv] at this;have e:((⟨b,o,none⟩:Addr).add (i*n)).add j=⟨b,o+i*n+j,none⟩:=by unfold Addr.add;split <;> split <;> simp_all
   rw[e] at this;exact this
  ·rw[hx,hlen];simp only[Rows.uptoBulk];have:=bulk_len ((List.range len').map D);simp at this;omega
  ·obtain ⟨i,hi2,rfl⟩:=List.mem_map.1 hx2;exact ⟨D i,(hgx i (List.mem_range.1 hi2)).1,hB i (List.mem_range.1 hi2)⟩
  ·obtain ⟨h1,h2⟩:=List.getElem?_eq_some_iff.1 hxi;rw[hlen] at h1;simp only[List.getElem_map,List.getElem_range] at h2;subst h2;exact (hgx i h1).1
  ·rw[hx,hlen];simp only[Rows.uptoBulk];omega
end
def tab32:List Int:= [0,1,28,2,29,14,24,3,30,22,20,15,25,17,4,8,31,27,13,23,21,19,16,7,26,12,18,6,11,5,10,9]
def tab64:List Int:=Lib.deBruijn64tab.map (fun n:Nat=> (n:Int))
def tab32D:String×DataW Unit:=("math/bits.deBruijn32tab",tabData .u8 tab32)
def tab64D:String×DataW Unit:=("math/bits.deBruijn64tab",tabData .u8 tab64)
def pow10D:String×DataW Unit:=("internal/strconv.uint64pow10",tabData .u64 Lib.pow10Tab)
def acceptD:String×DataW Unit:=("unicode/utf8.acceptRanges",acceptData)
def firstLD:String×DataW Unit:=("unicode/utf8.first",firstData)
def shaD:String×DataW Unit:=("cartulary/sha.table",tabData .u32 shaTab)
def blankD:String×DataW Unit:=("cartulary/text.blanks",.agg (blankT.map fun p=> tabData .i32 [(p.1:Int),(p.2:Int)]))
def laid25:List (String×DataW Unit):=tab32D::tab64D::pow10D::acceptD::(laidL++ [shaD,blankD,firstLD])
theorem laid25_sent:(laid25.filter fun x=> !(["math/bits.deBruijn32tab", "math/bits.deBruijn64tab", "internal/strconv.uint64pow10", "unicode/utf8.acceptRanges", "cartulary/sha.table", "cartulary/text.blanks", "unicode/utf8.first"].contains x.1))=laidL:=by kernel_rfl
theorem laid25_pow:(laid25.filter fun x=> x.1== "internal/strconv.uint64pow10")= [pow10D]:=by kernel_rfl
def plain25:List (String×DataW Unit):=tab32D::tab64D::pow10D::acceptD::(sentL.map sentD++ [shaD,blankD,firstLD])
theorem laid25_plain:(laid25.filter fun x=> x.2.handleName?.isNone)=plain25:=by kernel_rfl
theorem pow_plain:(([pow10D]:List (String×DataW Unit)).filter fun x=> x.2.handleName?.isSome)= []:=by kernel_rfl
section
variable {W:World}
theorem reads25(h:laidMetH Tryz.prog laid25 W){d:DataW Unit}(hm:(n,d)∈plain25):VarReads Tryz.prog W n d:=by have h1:laidMet Tryz.prog (laid25.filter fun x=> x.2.handleName?.isNone) W:=h.1;rw[laid25_plain] at h1;exact laidMet.reads h1 hm
theorem tab10_25(h:laidMetH Tryz.prog laid25 W):Tab10 W:=by have h2:=h.filter (fun x=> x.1== "internal/strconv.uint64pow10");rw[laid25_pow] at h2;unfold laidMetH at h2;rw[pow_plain] at h2;exact tabIs_of_head (g:=22) (t:=451) (e:=31) (n:=20) (by kernel_rfl) (by kernel_rfl) Tryz.underlying451 Tryz.underlying31 (by kernel_rfl) (by kernel_rfl) h2
theorem cells_tab{k:IntKind}{zs:List Int}{g:Nat}{t e:TypeId}{m:Nat}(h:VarReads Tryz.prog W n (tabData k zs))(hg:Tryz.prog.globalNamed n=some g)(hty:(Tryz.prog.globals[g]?).map (·.type)=some t)(ht:Tryz.prog.underlying t=some (.array m e))(he:Tryz.prog.underlying e=some (.int k))(hce:Tryz.prog.cellsOf e=1)(hct:Tryz.prog.cellsOf t=m)(i:Nat):W.cell? ⟨g,i,none⟩=(zs.map fun z=> Value.int k z)[i]? :=by obtain ⟨g',t',cs,fuel,p,hg',hty',hvar,hd⟩:=h;obtain rfl:=Option.some.inj (hg.symm.trans hg');obtain rfl:=Option.some.inj (hty.symm.trans hty');have hcs:=cells_of_tab ht he hce hct hd;rw[World.var?_cell hg hvar i,←Array.getElem?_toList,hcs]
theorem sha25(h:laidMetH Tryz.prog laid25 W):ShaTab W:=fun k hk=> by
 rw[cells_tab (g:=21) (t:=435) (e:=404) (m:=64) (reads25 h (n:= "cartulary/sha.table") (d:=tabData .u32 shaTab) (List.mem_of_getElem? (i:=20) rfl)) (by kernel_rfl) (by kernel_rfl) Tryz.underlying435 Tryz.underlying404 (by kernel_rfl) (by kernel_rfl) k];have hl:shaTab.length=64:=by decide
 rw[List.getElem?_map,List.getD_eq_getElem?_getD,List.getElem?_eq_getElem (by omega)];rfl
theorem ctz25(h:laidMetH Tryz.prog laid25 W):TabAt 20 Lib.deBruijn64tab W:=fun k hk=> by rw[cells_tab (g:=20) (t:=422) (e:=5) (m:=64) (reads25 h (n:= "math/bits.deBruijn64tab") (d:=tabData .u8 tab64) (List.mem_of_getElem? (i:=1) rfl)) (by kernel_rfl) (by kernel_rfl) Tryz.underlying422 Tryz.underlying5 (by kernel_rfl) (by kernel_rfl) k];unfold tab64;rw[List.getElem?_map,List.getElem?_map,List.getD_eq_getElem?_getD,List.getElem?_eq_getElem hk];rfl
theorem blank25(h:laidMetH Tryz.prog laid25 W):BlankTab W:=by
 obtain ⟨g,t,cs,fuel,p,hg,hty,hvar,hd⟩:=reads25 h (n:= "cartulary/text.blanks") (d:=blankD.2) (List.mem_of_getElem? (i:=21) rfl);obtain rfl:g=19:=Option.some.inj (hg.symm.trans (by kernel_rfl));obtain rfl:t=364:=Option.some.inj (hty.symm.trans (by kernel_rfl));have hc2:Tryz.prog.cellsOf 363=2:=by kernel_rfl
 have each:∀i,i < 9→(cs.toList.drop (i*2)).take 2=([((blankT.getD i (0,0)).1:Int),((blankT.getD i (0,0)).2:Int)].map fun z=> Value.int .i32 z):=fun i hi=> by
  obtain ⟨fuel',d,q,hdi,he⟩:=array_elem Tryz.underlying364 hd i hi;have hdi2:d=tabData .i32 [((blankT.getD i (0,0)).1:Int),((blankT.getD i (0,0)).2:Int)]:=by
   have hl:blankT.length=9:=by decide
   rw[List.getElem?_map,List.getElem?_eq_getElem (by omega)] at hdi;rw[List.getD_eq_getElem?_getD,List.getElem?_eq_getElem (by omega)];exact (Option.some.inj hdi).symm
  subst hdi2;rw[hc2] at he;exact cells_of_tab Tryz.underlying363 Tryz.underlying21 (by kernel_rfl) hc2 he
 intro j v hj;rw[Nat.zero_add,World.var?_cell hg hvar j,←Array.getElem?_toList];have hj18:j < 18:=(List.getElem?_eq_some_iff.1 hj).1;have h1:=congrArg (fun l=> l[j % 2]?) (each (j / 2) (by omega));simp only[List.getElem?_take,List.getElem?_drop] at h1;rw[if_pos (by omega),show j / 2*2+j % 2=j by omega] at h1;rw[h1,←hj];have:∀k,k < 18→([((blankT.getD (k / 2) (0,0)).1:Int),((blankT.getD (k / 2) (0,0)).2:Int)].map fun z=> Value.int .i32 z)[k % 2]? =blankC[k]? :=fun k hk=> by
  have hk2:k=0∨k=1∨k=2∨k=3∨k=4∨k=5∨k=6∨k=7∨k=8∨k=9∨k=10∨k=11∨k=12∨k=13∨k=14∨k=15∨k=16∨k=17:=by omega
  rcases hk2 with rfl | rfl | rfl | rfl | rfl | rfl | rfl | rfl | rfl | rfl | rfl | rfl | rfl | rfl | rfl | rfl | rfl | rfl <;> rfl
 exact this j hj18
theorem u8Extra:U8Extra Tryz.prog Tryz.lays196_ren:=by constructor <;> kernel_rfl
theorem utf25(h:laidMetH Tryz.prog laid25 W):Lib.Utf8Tabs 17 18 W:=
 utf8Tabs_of_readsT (ρ:=Tryz.lays196_ren) (U8Types.of196 Tryz.lays196) u8Extra (reads25 h (n:= "unicode/utf8.first") (d:=firstData) (List.mem_of_getElem? (i:=22) rfl)) (reads25 h (n:= "unicode/utf8.acceptRanges") (d:=acceptData) (List.mem_of_getElem? (i:=3) rfl))
end
theorem env_of_laid{W:World}(h:laidMetH Tryz.prog laid25 W):∃se,Env W.heap.size se W:=by have h1:=h.filter (fun x=> !(["math/bits.deBruijn32tab", "math/bits.deBruijn64tab", "internal/strconv.uint64pow10", "unicode/utf8.acceptRanges", "cartulary/sha.table", "cartulary/text.blanks", "unicode/utf8.first"].contains x.1));rw[laid25_sent] at h1;obtain ⟨se,G⟩:=genv_of_laid h1;refine ⟨se,G,lt_of_cell (sha25 h 0 (by omega)),fun w' hb=> ?_⟩;have X:Ext W w':=Ext.of_below hb;have hU:=utf25 h;refine ⟨(blank25 h).ext X,?_,(tab10_25 h).ext X,(sha25 h).ext X,tabAt_ext (ctz25 h) X⟩;exact ⟨fun c hc=> X.cellv (hU.1 c hc),fun i hi=> ⟨X.cellv (hU.2 i hi).1,X.cellv (hU.2 i hi).2⟩⟩
def tabOf(k:IntKind)(zs:List Int):Array Value:=(zs.map fun z=> Value.int k z).toArray
noncomputable def laidWorld25(os:Os):World:=
 let w0:=laidWorld os
 {w0 with heap:=((((((w0.heap.modify 24 fun
  | .cells _ t frozen=> .cells (tabOf .u8 tab32) t frozen
  | o=> o).modify 20 fun
  | .cells _ t frozen=> .cells (tabOf .u8 tab64) t frozen
  | o=> o).modify 22 fun
  | .cells _ t frozen=> .cells (tabOf .u64 Lib.pow10Tab) t frozen
  | o=> o).modify 21 fun
  | .cells _ t frozen=> .cells (tabOf .u32 shaTab) t frozen
  | o=> o).modify 19 fun
  | .cells _ t frozen=> .cells blankC.toArray t frozen
  | o=> o).modify 17 fun
  | .cells _ t frozen=> .cells (tabOf .u8 (firstTab.map fun n=> (n:Int))) t frozen
  | o=> o).modify 18 fun
  | .cells _ t frozen=> .cells (((List.range 16).map fun i=> [Value.int .u8 (accLo i),Value.int .u8 (accHi i)]).flatten.toArray) t frozen
  | o=> o}
theorem laidWorld25_met(os:Os)(args:Array Value):laidMetH Tryz.prog laid25 ((laidWorld25 os).forCall (fun _ _=> 0) ⟨#[],args,[]⟩).memory:=
 laidMetH_of_parts (by rw[laid25_plain];exact laidMet_of_run' 80 (by kernel_rfl) (by kernel_rfl)) (by kernel_rfl)
end Go.Proofs.YtjnjpgdoncbahaaGreatDoor
