/- The argument of WriterCrash, opened. What the cell 'laid' of a writer's row gives: the sentinels, the handle, and the tables of strconv, bits, utf8, text and sha. A world for the witnesses. -/
import Derived.Test.YtnkcfkjeeennmaaGreatDoorOpenW
import Derived.Test.YtnkcfkjeeennmaaGreatDoorLogS
import Derived.Test.YtnkcfkjeeennmaaGreatDoorLaid
import Derived.Test.YtnkcfkjeeennmaaGreatDoorWrA
import Derived.Lib.LaidTab
import Derived.Lib.LaidU8T
import Derived.LaidSub
namespace Go.Proofs.YtnkcfkjeeennmaaGreatDoor
open Go.ChangeShapes Go.WideShapes Go.ChangeAt Go.RowKit Go.Lib Go.Deep
set_option maxRecDepth 20000
variable {b0:Nat}{n:String}{r:Reach}
section
variable {H:Type} {enc:TypeId×Value→H} {w:World}
theorem cells_cra:Tryz.prog.cellsOf 75=4:=by kernel_rfl
theorem cells_stsC:Tryz.prog.cellsOf 22=1:=by kernel_rfl
theorem cells_boolC:Tryz.prog.cellsOf 4=1:=by kernel_rfl
theorem types_cra:Tryz.prog.cellTypes Tryz.prog.depth 75=some [22,22,3,4]:=by kernel_rfl
theorem strs_trodC{fuel:Nat}{c:Value}{y:DataW H×List MemPlace}(hval:Value.okWide Tryz.prog w r b0 22 c)(h:DataW.trod enc Tryz.prog w 0 (fun _=> true) true fuel 22 [c]=some y):
 ∃(a:Option Addr) (cap:Nat) (ss:List ByteArray),c= .slice a ss.length cap∧ss.length≤9223372036854775807∧TextsAt w a ss:=by
 obtain ⟨a,cap,xs,e,hl,hp,hr⟩:=rows_trod (fun x:ByteArray=> [.string x]) 1 (fun x=> x.size≤maxLen) ⟨#[]⟩ Tryz.underlying22 cells_str (fun fuel cs y ht=> by obtain ⟨k,h1,_,h2⟩:=DataW.trod_string Tryz.underlying9 ht;exact ⟨k,h1,h2⟩) hval h
 exact ⟨a,cap,xs,e,hl,fun i x hx=> by obtain ⟨b,o,ea,hc⟩:=hr i x hx;have:=hc 0 _ rfl;exact ⟨hp x (List.mem_of_getElem? hx),b,o,ea,by simpa using this⟩⟩
theorem crash_arg{v:Value}{d:DataW H}{p:List MemPlace}(hval:Value.okWide Tryz.prog w r b0 75 v)(h:DataW.Trod enc Tryz.prog w 0 (fun _=> true) true 75 v d p):
 ∃(a:Option Addr) (c1:Nat) (ss:List ByteArray) (ca:Option Addr) (c2:Nat) (sm:List ByteArray) (k:Int) (e:Bool),v= .agg #[.slice a ss.length c1,.slice ca sm.length c2,.int .i64 k,.bool e]∧ss.length≤9223372036854775807∧TextsAt w a ss∧sm.length≤9223372036854775807∧TextsAt w ca sm:=by
 unfold Value.okWide at hval;simp only[Tryz.underlying75] at hval;obtain ⟨cs,rfl,hsz,ts,hts,_,hcell⟩:=hval;rw[types_cra] at hts;obtain rfl:=Option.some.inj hts;obtain ⟨fuel,hf⟩:=h;rw[cells_cra] at hsz;obtain ⟨l⟩:=cs;match l,hsz with
 | [c0,c1,c2,c3],_=>
  obtain ⟨u,hu,hok⟩:=hcell 0 c0 rfl;obtain rfl:22=u:=by simpa using hu
  obtain ⟨u,hu,hok1⟩:=hcell 1 c1 rfl;obtain rfl:22=u:=by simpa using hu
  have hok2:Value.okWide Tryz.prog w r b0 22 c0:=by unfold Value.okWide;simp only[Tryz.underlying22];exact hok
  have hok3:Value.okWide Tryz.prog w r b0 22 c1:=by unfold Value.okWide;simp only[Tryz.underlying22];exact hok1
  have hf':DataW.trod enc Tryz.prog w 0 (fun _=> true) true fuel 75 [c0,c1,c2,c3]=some (d,p):=hf;obtain ⟨xs,m,_,_,hl,hx,hi⟩:=DataW.trod_struct Tryz.underlying75 hf';have hx4:xs.length=4:=hx;clear hx;match xs,hx4 with
  | [y0,y1,y2,y3],_=>
   have i0:DataW.trod enc Tryz.prog w 0 (fun _=> true) true m 22 ((([c0,c1,c2,c3]:List Value).drop 0).take (Tryz.prog.cellsOf 22))=some y0:=hi 0 _ rfl;rw[cells_stsC] at i0;have i1:DataW.trod enc Tryz.prog w 0 (fun _=> true) true m 22 ((([c0,c1,c2,c3]:List Value).drop 1).take (Tryz.prog.cellsOf 22))=some y1:=hi 1 _ rfl;rw[cells_stsC] at i1;have i2:DataW.trod enc Tryz.prog w 0 (fun _=> true) true m 3 ((([c0,c1,c2,c3]:List Value).drop 2).take (Tryz.prog.cellsOf 3))=some y2:=hi 2 _ rfl;rw[cells_int] at i2;have i3:DataW.trod enc Tryz.prog w 0 (fun _=> true) true m 4 ((([c0,c1,c2,c3]:List Value).drop 3).take (Tryz.prog.cellsOf 4))=some y3:=hi 3 _ rfl;rw[cells_boolC] at i3;obtain ⟨k,a2,_,_⟩:=DataW.trod_int Tryz.underlying3 i2;obtain ⟨e,a3,_⟩:=DataW.trod_bool Tryz.underlying4 i3;obtain rfl:c2= .int .i64 k:=List.head_eq_of_cons_eq a2;obtain rfl:c3= .bool e:=List.head_eq_of_cons_eq a3;obtain ⟨a,cp,ss,rfl,h1,h2⟩:=strs_trodC hok2 i0;obtain ⟨ca,cq,sm,rfl,h3,h4⟩:=strs_trodC hok3 i1;exact ⟨a,cp,ss,ca,cq,sm,k,e,rfl,h1,h2,h3,h4⟩
theorem strs_dataC(ss:List ByteArray):strs (ss.map fun s=> s.data.toList)=ss:=by unfold strs;rw[List.map_map];exact (List.map_congr_left fun s _=> rfl).trans (List.map_id _)
theorem crash_said{B:Nat}{se:Nat→Addr}(E:Env B se w){a ca:Option Addr}{ss sm:List ByteArray}(h1:TextsAt w a ss)(hl:ss.length≤9223372036854775807)(h2:TextsAt w ca sm)(hm:sm.length≤9223372036854775807)(k:Int)(d:Bool)(c1 c2:Nat):
 Calls Tryz.prog 6 #[.agg #[.slice a ss.length c1,.slice ca sm.length c2,.int .i64 k,.bool d]] w fun e w'=> e= .returned (.bool true)∧Ext w w':=by
 have h9:=crash_any25 E (a:=a) (ca:=ca) (ls:=ss.map fun s=> s.data.toList) (ms:=sm.map fun s=> s.data.toList) (by rw[strs_dataC];exact h1) (by rw[strs_dataC];exact h2) (by rw[List.length_map];exact hl) (by rw[List.length_map];exact hm) k d c1 c2;rw[List.length_map,List.length_map] at h9;exact h9
end
def tab32:List Int:= [0,1,28,2,29,14,24,3,30,22,20,15,25,17,4,8,31,27,13,23,21,19,16,7,26,12,18,6,11,5,10,9]
def tab64:List Int:=Lib.deBruijn64tab.map (fun n:Nat=> (n:Int))
def tab32D:String×DataW Unit:=("math/bits.deBruijn32tab",tabData .u8 tab32)
def tab64D:String×DataW Unit:=("math/bits.deBruijn64tab",tabData .u8 tab64)
def pow10D:String×DataW Unit:=("internal/strconv.uint64pow10",tabData .u64 Lib.pow10Tab)
def acceptD:String×DataW Unit:=("unicode/utf8.acceptRanges",acceptData)
def firstLD:String×DataW Unit:=("unicode/utf8.first",firstData)
def shaD:String×DataW Unit:=("cartulary/sha.table",tabData .u32 shaTab)
def blankD:String×DataW Unit:=("cartulary/text.blanks",.agg (blankT.map fun p=> tabData .i32 [(p.1:Int),(p.2:Int)]))
def laid25:List (String×DataW Unit):=tab32D::tab64D::pow10D::acceptD::(laidL++ [shaD,blankD,firstLD])
theorem laid25_sent:(laid25.filter fun x=> !(["math/bits.deBruijn32tab", "math/bits.deBruijn64tab", "internal/strconv.uint64pow10", "unicode/utf8.acceptRanges", "cartulary/sha.table", "cartulary/text.blanks", "unicode/utf8.first"].contains x.1))=laidL:=by kernel_rfl
theorem laid25_pow:(laid25.filter fun x=> x.1== "internal/strconv.uint64pow10")= [pow10D]:=by kernel_rfl
def plain25:List (String×DataW Unit):=tab32D::tab64D::pow10D::acceptD::(sentL.map sentD++ [shaD,blankD,firstLD])
theorem laid25_plain:(laid25.filter fun x=> x.2.handleName?.isNone)=plain25:=by kernel_rfl
theorem pow_plain:(([pow10D]:List (String×DataW Unit)).filter fun x=> x.2.handleName?.isSome)= []:=by kernel_rfl
section
variable {W:World}
theorem reads25(h:laidMetH Tryz.prog laid25 W){d:DataW Unit}(hm:(n,d)∈plain25):VarReads Tryz.prog W n d:=by have h1:laidMet Tryz.prog (laid25.filter fun x=> x.2.handleName?.isNone) W:=h.1;rw[laid25_plain] at h1;exact laidMet.reads h1 hm
theorem tab10_25(h:laidMetH Tryz.prog laid25 W):Tab10 W:=by have h2:=h.filter (fun x=> x.1== "internal/strconv.uint64pow10");rw[laid25_pow] at h2;unfold laidMetH at h2;rw[pow_plain] at h2;exact tabIs_of_head (g:=22) (t:=326) (e:=28) (n:=20) (by kernel_rfl) (by kernel_rfl) Tryz.underlying326 Tryz.underlying28 (by kernel_rfl) (by kernel_rfl) h2
theorem cells_tab{k:IntKind}{zs:List Int}{g:Nat}{t e:TypeId}{m:Nat}(h:VarReads Tryz.prog W n (tabData k zs))(hg:Tryz.prog.globalNamed n=some g)(hty:(Tryz.prog.globals[g]?).map (·.type)=some t)(ht:Tryz.prog.underlying t=some (.array m e))(he:Tryz.prog.underlying e=some (.int k))(hce:Tryz.prog.cellsOf e=1)(hct:Tryz.prog.cellsOf t=m)(i:Nat):W.cell? ⟨g,i,none⟩=(zs.map fun z=> Value.int k z)[i]? :=by obtain ⟨g',t',cs,fuel,p,hg',hty',hvar,hd⟩:=h;obtain rfl:=Option.some.inj (hg.symm.trans hg');obtain rfl:=Option.some.inj (hty.symm.trans hty');have hcs:=cells_of_tab ht he hce hct hd;rw[World.var?_cell hg hvar i,←Array.getElem?_toList,hcs]
theorem sha25(h:laidMetH Tryz.prog laid25 W):ShaTab W:=fun k hk=> by
 rw[cells_tab (g:=21) (t:=305) (e:=272) (m:=64) (reads25 h (n:= "cartulary/sha.table") (d:=tabData .u32 shaTab) (List.mem_of_getElem? (i:=20) rfl)) (by kernel_rfl) (by kernel_rfl) Tryz.underlying305 Tryz.underlying272 (by kernel_rfl) (by kernel_rfl) k];have hl:shaTab.length=64:=by decide
 rw[List.getElem?_map,List.getD_eq_getElem?_getD,List.getElem?_eq_getElem (by omega)];rfl
theorem ctz25(h:laidMetH Tryz.prog laid25 W):TabAt 20 Lib.deBruijn64tab W:=fun k hk=> by rw[cells_tab (g:=20) (t:=286) (e:=5) (m:=64) (reads25 h (n:= "math/bits.deBruijn64tab") (d:=tabData .u8 tab64) (List.mem_of_getElem? (i:=1) rfl)) (by kernel_rfl) (by kernel_rfl) Tryz.underlying286 Tryz.underlying5 (by kernel_rfl) (by kernel_rfl) k];unfold tab64;rw[List.getElem?_map,List.getElem?_map,List.getD_eq_getElem?_getD,List.getElem?_eq_getElem hk];rfl
theorem blank25(h:laidMetH Tryz.prog laid25 W):BlankTab W:=by
 obtain ⟨g,t,cs,fuel,p,hg,hty,hvar,hd⟩:=reads25 h (n:= "cartulary/text.blanks") (d:=blankD.2) (List.mem_of_getElem? (i:=21) rfl);obtain rfl:g=19:=Option.some.inj (hg.symm.trans (by kernel_rfl));obtain rfl:t=254:=Option.some.inj (hty.symm.trans (by kernel_rfl));have hc2:Tryz.prog.cellsOf 253=2:=by kernel_rfl
 have each:∀i,i < 9→(cs.toList.drop (i*2)).take 2=([((blankT.getD i (0,0)).1:Int),((blankT.getD i (0,0)).2:Int)].map fun z=> Value.int .i32 z):=fun i hi=> by
  obtain ⟨fuel',d,q,hdi,he⟩:=array_elem Tryz.underlying254 hd i hi;have hdi2:d=tabData .i32 [((blankT.getD i (0,0)).1:Int),((blankT.getD i (0,0)).2:Int)]:=by
   have hl:blankT.length=9:=by decide
   rw[List.getElem?_map,List.getElem?_eq_getElem (by omega)] at hdi;rw[List.getD_eq_getElem?_getD,List.getElem?_eq_getElem (by omega)];exact (Option.some.inj hdi).symm
  subst hdi2;rw[hc2] at he;exact cells_of_tab Tryz.underlying253 Tryz.underlying21 (by kernel_rfl) hc2 he
 intro j v hj;rw[Nat.zero_add,World.var?_cell hg hvar j,←Array.getElem?_toList];have hj18:j < 18:=(List.getElem?_eq_some_iff.1 hj).1;have h1:=congrArg (fun l=> l[j % 2]?) (each (j / 2) (by omega));simp only[List.getElem?_take,List.getElem?_drop] at h1;rw[if_pos (by omega),show j / 2*2+j % 2=j by omega] at h1;rw[h1,←hj];have:∀k,k < 18→([((blankT.getD (k / 2) (0,0)).1:Int),((blankT.getD (k / 2) (0,0)).2:Int)].map fun z=> Value.int .i32 z)[k % 2]? =blankC[k]? :=fun k hk=> by
  have hk2:k=0∨k=1∨k=2∨k=3∨k=4∨k=5∨k=6∨k=7∨k=8∨k=9∨k=10∨k=11∨k=12∨k=13∨k=14∨k=15∨k=16∨k=17:=by omega
  rcases hk2 with rfl | rfl | rfl | rfl | rfl | rfl | rfl | rfl | rfl | rfl | rfl | rfl | rfl | rfl | rfl | rfl | rfl | rfl <;> rfl
 exact this j hj18
theorem u8Extra:U8Extra Tryz.prog Tryz.lays196_ren:=by constructor <;> kernel_rfl
theorem utf25(h:laidMetH Tryz.prog laid25 W):Lib.Utf8Tabs 17 18 W:=
 utf8Tabs_of_readsT (ρ:=Tryz.lays196_ren) (U8Types.of196 Tryz.lays196) u8Extra (reads25 h (n:= "unicode/utf8.first") (d:=firstData) (List.mem_of_getElem? (i:=22) rfl)) (reads25 h (n:= "unicode/utf8.acceptRanges") (d:=acceptData) (List.mem_of_getElem? (i:=3) rfl))
end
theorem env_of_laid{W:World}(h:laidMetH Tryz.prog laid25 W):∃se,Env W.heap.size se W:=by have h1:=h.filter (fun x=> !(["math/bits.deBruijn32tab", "math/bits.deBruijn64tab", "internal/strconv.uint64pow10", "unicode/utf8.acceptRanges", "cartulary/sha.table", "cartulary/text.blanks", "unicode/utf8.first"].contains x.1));rw[laid25_sent] at h1;obtain ⟨se,G⟩:=genv_of_laid h1;refine ⟨se,G,lt_of_cell (sha25 h 0 (by omega)),fun w' hb=> ?_⟩;have X:Ext W w':=Ext.of_below hb;have hU:=utf25 h;refine ⟨(blank25 h).ext X,?_,(tab10_25 h).ext X,(sha25 h).ext X,tabAt_ext (ctz25 h) X⟩;exact ⟨fun c hc=> X.cellv (hU.1 c hc),fun i hi=> ⟨X.cellv (hU.2 i hi).1,X.cellv (hU.2 i hi).2⟩⟩
def tabOf(k:IntKind)(zs:List Int):Array Value:=(zs.map fun z=> Value.int k z).toArray
noncomputable def laidWorld25(os:Os):World:=
 let w0:=laidWorld os
 {w0 with heap:=((((((w0.heap.modify 24 fun
  | .cells _ t frozen=> .cells (tabOf .u8 tab32) t frozen
  | o=> o).modify 20 fun
  | .cells _ t frozen=> .cells (tabOf .u8 tab64) t frozen
  | o=> o).modify 22 fun
  | .cells _ t frozen=> .cells (tabOf .u64 Lib.pow10Tab) t frozen
  | o=> o).modify 21 fun
  | .cells _ t frozen=> .cells (tabOf .u32 shaTab) t frozen
  | o=> o).modify 19 fun
  | .cells _ t frozen=> .cells blankC.toArray t frozen
  | o=> o).modify 17 fun
  | .cells _ t frozen=> .cells (tabOf .u8 (firstTab.map fun n=> (n:Int))) t frozen
  | o=> o).modify 18 fun
  | .cells _ t frozen=> .cells (((List.range 16).map fun i=> [Value.int .u8 (accLo i),Value.int .u8 (accHi i)]).flatten.toArray) t frozen
  | o=> o}
theorem laidWorld25_met(os:Os)(args:Array Value):laidMetH Tryz.prog laid25 ((laidWorld25 os).forCall (fun _ _=> 0) ⟨#[],args,[]⟩).memory:=
 laidMetH_of_parts (by rw[laid25_plain];exact laidMet_of_run' 80 (by kernel_rfl) (by kernel_rfl)) (by kernel_rfl)
end Go.Proofs.YtnkcfkjeeennmaaGreatDoor
