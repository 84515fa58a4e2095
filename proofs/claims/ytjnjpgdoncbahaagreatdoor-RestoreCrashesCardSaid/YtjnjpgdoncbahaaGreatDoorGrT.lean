/- growth.tiles by contract. writer.Create by contract. slices.Clone of hashes, writer.long, writer.Checkpoint by contracts. A writer's cells; writer.long, Checkpoint by contracts. Leaves come to a growth: its edges are stepE's. Plain law. Puts, each one unless one was refused; Append's closure by contract. -/
import Derived.Test.YtjnjpgdoncbahaaGreatDoorGrAdd
import Derived.Test.YtjnjpgdoncbahaaGreatDoorWrA
import Derived.Test.YtjnjpgdoncbahaaGreatDoorTree
import Derived.Test.YtjnjpgdoncbahaaGreatDoorTileH
namespace Go.Proofs.YtjnjpgdoncbahaaGreatDoor
open Go.RowKit Go.Lib
set_option maxRecDepth 20000
set_option maxHeartbeats 8000000
variable {A:Option Addr}{G:GrP}{r:StD×EV}{t:TypeId}{x:StD}
def tileK(n:Nat)(G:GrP)(k:Nat):List LaidP:=G.ls.getD k []++(if G.ts.getD k false=true∧(G.es.getD k []).length≠0 then [(k,n / 2 ^ (8*k) / 256,(G.es.getD k []).length,G.es.getD k [])] else [])
def tilesP(n:Nat)(G:GrP)(m:Nat):List LaidP:=((List.range m).map (tileK n G)).flatten
theorem tilesP_succ(n:Nat)(G:GrP)(m:Nat):tilesP n G (m+1)=tilesP n G m++tileK n G m:=by unfold tilesP;rw[List.range_succ,List.map_append,List.flatten_append];simp
theorem tileK_le{M n:Nat}(h:okP M G)(k:Nat):(tileK n G k).length≤M+1:=by
 have:=h.l k;unfold tileK;rw[List.length_append];split
 ·rw[List.length_singleton];omega
 ·rw[List.length_nil];omega
theorem tilesP_le{M n:Nat}{G:GrP}(h:okP M G):∀m,(tilesP n G m).length≤m*(M+1)
 | 0=> by simp[tilesP]
 | m+1=> by rw[tilesP_succ,List.length_append,Nat.add_mul,Nat.one_mul];exact Nat.add_le_add (tilesP_le h m) (tileK_le h m)
theorem laidCs_len(l:List LaidD):(laidCs l).length=l.length*4:=by
 induction l with
 | nil=> rfl
 | cons x l ih=>
  show (laidC x++laidCs l).length=_;rw[List.length_append,ih,List.length_cons];simp[laidC];omega
theorem laidCs_app(a b:List LaidD):laidCs (a++b)=laidCs a++laidCs b:=by simp[laidCs]
theorem laidCs_one{w:World}{B e:Nat}(l:List LaidD)(h:∀x∈l,w.ownsRow B e 32 x.v x.hs.length (hcells x.hs)):∀u∈laidCs l,u.oneCell'=true:=fun u hu=> by
 obtain ⟨c,hc,hu2⟩:=List.mem_flatten.1 hu;obtain ⟨x,hx,rfl⟩:=List.mem_map.1 hc;simp only[laidC,List.mem_cons,List.not_mem_nil,or_false] at hu2;rcases hu2 with rfl | rfl | rfl | rfl
 ·rfl
 ·rfl
 ·rfl
 ·exact own_oneA (h x hx)
theorem cells_own{w:World}{B e size n:Nat}{c:Nat}{xs:List Value}(h:w.ownsRow B e size (.slice A n c) n xs):CellsAt w A xs:=by
 rcases own_form h with ⟨hv,h0⟩ | ⟨g,cr,hv,_⟩
 ·have:=h.1;rw[h0,Nat.zero_mul] at this;rw[List.eq_nil_of_length_eq_zero this];intro j v hj;simp at hj
 ·simp only[Value.slice.injEq,true_and] at hv;obtain ⟨rfl,_⟩:=hv;exact fun j v hj=> ⟨_,rfl,h.cells (g:=g) rfl j v hj⟩
def TlRel(B n nt:Nat)(G:GrP)(w:World)(jv tv:Value)(wr:World):Prop:=
 ∃(j:Nat) (out:List LaidD),j≤nt∧jv= .int .i64 j∧wr.ownsRow w.heap.size 160 4 tv out.length (laidCs out)∧out.map LaidD.p=tilesP n G j∧(∀x∈out,w.ownsRow B 33 32 x.v x.hs.length (hcells x.hs))∧Ext w wr
theorem gtiles_any{B:Nat}{w:World}{gb:Nat}{V:GrV}{D:GrD}(h:GrAt B w gb V D)(hte:D.ts.length≤D.es.length)(h8:D.ts.length≤8){M:Nat}(hM:M≤1048576)(hok:okP M D.p)(hn:D.n < 16777216):
 Calls Tryz.prog 69 #[.pointer (some ⟨gb,0,none⟩)] w fun e w'=> ∃v out,e= .returned v∧w'.ownsRow w.heap.size 160 4 v out.length (laidCs out)∧out.map LaidD.p=tilesP D.n D.p D.ts.length∧(∀x∈out,w.ownsRow B 33 32 x.v x.hs.length (hcells x.hs))∧Ext w w':=by
 have HH:=ZA h;have HTE:=ZA hte;have HOK:=ZA (⟨hM,hok,hn⟩:M≤1048576∧okP M D.p∧D.n < 16777216);obtain ⟨nt,hnt⟩:∃nt,nt=D.ts.length:=⟨_,rfl⟩;obtain ⟨ne,hne⟩:∃ne,ne=D.es.length:=⟨_,rfl⟩;obtain ⟨nl,hnl⟩:∃nl,nl=D.ls.length:=⟨_,rfl⟩;obtain ⟨tA,tc,htv⟩:=own_sl h.tr;obtain ⟨eA,ec,hev⟩:=own_sl h.er;obtain ⟨lA,lc,hdv⟩:=own_sl h.dr;rw[←hnt] at htv;rw[←hne] at hev;rw[←hnl] at hdv;have HNN:=ZA (⟨hnt,hne,hnl⟩:nt=D.ts.length∧ne=D.es.length∧nl=D.ls.length);have HVV:=ZA (⟨htv,hev,hdv⟩:V.tv= .slice tA nt tc∧V.ev= .slice eA ne ec∧V.dv= .slice lA nl lc);have h8n:nt≤8:=by rw[hnt];exact h8
 have c3:w.cell? ⟨gb,3,none⟩=some (.slice tA nt tc):=by have:=cell_of_blk h.blk 3;rw[htv] at this;exact this
 clear h hte h8 hM hok hn hnt hne hnl htv hev hdv;go_enter Tryz.func69,Tryz.ntmps69;go_wp2_with fail;go_loopw [12,3] (fun jv tv wr=> TlRel B D.n nt D.p w jv tv wr) (fun jv _ _=> nt - (RowKit.intOf jv).toNat);case atStart=> exact ⟨0,[],Nat.zero_le _,rfl,World.ownsRow_nil _ _ _ _,rfl,by simp,Upd.refl _ _⟩
 case round=>
  obtain ⟨j,out,hj,rfl,hown,hp,hx,hu⟩:=hrel;obtain ⟨oA,oc,rfl⟩:=own_sl hown;have HOWN:=ZA hown;have HP:=ZA hp;have HXX:=ZA hx;have HU:=ZA hu;have HG:=ZA (HH.o.ext hu);clear hown hp hx hu c3;by_cases hlt:j < nt
  ·have hji:(j:Int) < nt:=by omega
   have hje:j < ne:=by have:=HNN.o;have:=HTE.o;omega
   have hjl:j < nl:=by have:=HNN.o;have:=HH.o.len;omega
   have hji2:(j:Int) < ne:=by omega
   have hji3:(j:Int) < nl:=by omega
   have htr:=HG.o.tr;have her:=HG.o.er;have hdr:=HG.o.dr;rw[HVV.o.1,←HNN.o.1] at htr;rw[HVV.o.2.1,←HNN.o.2.1] at her;rw[HVV.o.2.2,←HNN.o.2.2] at hdr;obtain ⟨tg,rfl⟩:∃g,tA=some ⟨g,0,none⟩:=by
    rcases own_form htr with ⟨_,h0⟩ | ⟨g,c,h1,_⟩
    ·omega
    ·simp only[Value.slice.injEq,true_and] at h1;exact ⟨g,h1.1⟩
   obtain ⟨eg,rfl⟩:∃g,eA=some ⟨g,0,none⟩:=by
    rcases own_form her with ⟨_,h0⟩ | ⟨g,c,h1,_⟩
    ·omega
    ·simp only[Value.slice.injEq,true_and] at h1;exact ⟨g,h1.1⟩
   obtain ⟨lg,rfl⟩:∃g,lA=some ⟨g,0,none⟩:=by
    rcases own_form hdr with ⟨_,h0⟩ | ⟨g,c,h1,_⟩
    ·omega
    ·simp only[Value.slice.injEq,true_and] at h1;exact ⟨g,h1.1⟩
   obtain ⟨tb,htb⟩:∃tb,tb=D.ts.getD j false:=⟨_,rfl⟩;have HTB:=ZA htb;have ct:wr.cell? ⟨tg,j,none⟩=some (.bool tb):=by rw[htb];have:=htr.cells (g:=tg) rfl j (.bool (D.ts.getD j false)) (by rw[List.getElem?_map,List.getD_eq_getElem?_getD,List.getElem?_eq_getElem (by have:=HNN.o;omega)];rfl);rwa [Addr.add_lit,Nat.zero_add] at this
   have c2:wr.cell? ⟨gb,2,none⟩=some (.slice (some ⟨lg,0,none⟩) nl lc):=by have:=cell_of_blk HG.o.blk 2;rw[HVV.o.2.2] at this;exact this
   obtain ⟨dA,dlc,hdk⟩:=own_sl (HG.o.de j);obtain ⟨kA,kc,hek⟩:=own_sl (HG.o.ee j);obtain ⟨ml,hml⟩:∃ml,ml=(D.ls.getD j []).length:=⟨_,rfl⟩;obtain ⟨m,hm⟩:∃m,m=(D.es.getD j []).length:=⟨_,rfl⟩;have hde:=HG.o.de j;rw[hdk] at hde;rw[←hml] at hdk hde;rw[←hm] at hek;have cl:wr.cell? ⟨lg,j,none⟩=some (.slice dA ml dlc):=by have:=hdr.cells (g:=lg) rfl j (V.dvs.getD j nilS) (by rw[List.getD_eq_getElem?_getD,List.getElem?_eq_getElem (by have:=hdr.1;omega)];rfl);rw[Addr.add_lit,Nat.zero_add] at this;rw[this,hdk]
   have HEK:=ZA hek;have HML:=ZA hml;have HME:=ZA hm;have HJ:=ZA (⟨hje,hjl⟩:j < ne∧j < nl);have HCD:=ZA (cells_own hde);have HLL:=ZA (show (laidCs (D.ls.getD j [])).length=ml*4 by rw[laidCs_len,hml]);have HL1:=ZA (laidCs_one _ (HH.o.lh j));have HOL:Hid (out.length≤8*(M+1)∧ml≤M∧m < 256):=ZA (by
    have h1:=tilesP_le (n:=D.n) HOK.o.2.1 j;rw[←HP.o,List.length_map] at h1;have h2:j*(M+1)≤8*(M+1):=Nat.mul_le_mul_right _ (by omega);have h3:=HOK.o.2.1.l j;have h4:(D.p.ls.getD j []).length=(D.ls.getD j []).length:=by show ((D.ls.map (fun l=> l.map LaidD.p)).getD j []).length=_;rw[show (D.ls.map (fun l=> l.map LaidD.p)).getD j []=(D.ls.getD j []).map LaidD.p from map_getD (fun l=> l.map LaidD.p) D.ls j [],List.length_map]
    have h5:=(HOK.o.2.1.h j).1;have h6:(D.p.es.getD j []).length=m:=by rw[hm];rfl
    omega)
   have HBB:=ZA (show w.heap.size≤wr.heap.size from HU.o.size);have HLM:=ZA (show out.length+ml≤maxLen∧(out.length+ml)*48≤140737488355328 by unfold maxLen;have:=HOL.o;have:=HOK.o.1;omega);obtain ⟨j0,jz,hj0,hjz,hjs,hjb,hjc⟩:=laid_parts;have HLT:=ZA hlt;have ce1:V.ev= .slice (some ⟨eg,0,none⟩) ne ec:=HVV.o.2.1;have HCE:=ZA ce1;clear htb hlt htr her hdr hdk hek hde hml hm hje hjl ce1;go_wp2_with (at_builtin;(refine wpList_appX rfl _ _ 157 rfl w.heap.size 160 j0 jz 4 48 Tryz.underlying157 hj0 hjz hjs hjb hjc (by decide) (.slice oA out.length oc) out.length _ rfl HOWN.o dA ml dlc (laidCs (D.ls.getD j [])) rfl HLL.o HCD.o HL1.o HLM.o.1 HLM.o.2 HBB.o ?_));intro A5 c5 w5 hown5 hgrow5 _;have HO5:Hid (w5.ownsRow w.heap.size 160 4 (.slice A5 (out.length+ml) c5) (out.length+ml) (laidCs (out++D.ls.getD j []))):=ZA (by rw[laidCs_app];exact hown5);have HU5:=ZA (HU.o.grown hgrow5 (fun g hg=> .inl (HOWN.o.lt g hg).1));have HG5:=ZA (HH.o.ext HU5.o);have e1:w5.cell? ⟨gb,1,none⟩=some (.slice (some ⟨eg,0,none⟩) ne ec):=by have:=cell_of_blk HG5.o.blk 1;rw[HCE.o] at this;exact this
   have ce:w5.cell? ⟨eg,j,none⟩=some (.slice kA m kc):=by have her:=HG5.o.er;rw[HCE.o,←HNN.o.2.1] at her;have:=her.cells (g:=eg) rfl j (V.vs.getD j nilS) (by rw[List.getD_eq_getElem?_getD,List.getElem?_eq_getElem (by have:=her.1;have:=HJ.o;omega)];rfl);rw[Addr.add_lit,Nat.zero_add] at this;rw[this,HEK.o]
   have HX5:Hid (∀x∈out++D.ls.getD j [],w.ownsRow B 33 32 x.v x.hs.length (hcells x.hs)):=ZA (fun x hx=> by
    rcases List.mem_append.1 hx with h1 | h1
    ·exact HXX.o x h1
    ·exact HH.o.lh j x h1)
   have HP5:Hid ((out++D.ls.getD j []).map LaidD.p=tilesP D.n D.p j++D.p.ls.getD j []):=ZA (by rw[List.map_append,HP.o];congr 1;exact (map_getD (fun l=> l.map LaidD.p) D.ls j []).symm)
   have HOL5:=ZA (show (out++D.ls.getD j []).length=out.length+ml by rw[List.length_append,HML.o]);clear hown5 hgrow5 ct c2 cl;generalize hout:out++D.ls.getD j []=out5 at*;generalize hn5:out.length+ml=n5 at*;have HN5:=ZA hn5;clear hn5 hout;cases tb with
   | false=>
    go_wp2_with fail;have hlt:=HLT.o;refine ⟨⟨j+1,out5,by omega,rfl,by rw[HOL5.o];exact HO5.o,?_,HX5.o,HU5.o⟩,by simp[RowKit.intOf];omega⟩;rw[HP5.o,tilesP_succ,tileK,if_neg (by intro h;have h1:D.ts.getD j false=true:=h.1;rw[←HTB.o] at h1;cases h1),List.append_nil]
   | true=>
    by_cases hm0:m=0
    ·subst hm0;go_wp2_with fail;have hlt:=HLT.o;refine ⟨⟨j+1,out5,by omega,rfl,by rw[HOL5.o];exact HO5.o,?_,HX5.o,HU5.o⟩,by simp[RowKit.intOf];omega⟩;rw[HP5.o,tilesP_succ,tileK,if_neg (by intro h;exact h.2 HME.o.symm),List.append_nil]
    ·have hmi:decide (0 < m)=true:=by simp;omega
     have HM0:=ZA hm0;clear hm0;have CS:=size_any HG5.o.bld;have e0:w5.cell? ⟨gb,0,none⟩=some (.pointer (some ⟨V.bb,0,none⟩)):=cell_of_blk HG5.o.blk 0;have hj8:j < 8:=by have:=HLT.o;omega
     have hj256:IntKind.u8.wrap (j:Int)=j:=by rw[IntKind.wrap_u8'];omega
     have h8j:IntKind.i64.wrap (8*(j:Int))=((8*j:Nat):Int):=by rw[IntKind.wrap_i64];omega
     obtain ⟨S,hS⟩:∃S,S=D.n / 2 ^ (8*j):=⟨_,rfl⟩;obtain ⟨q,hq⟩:∃q,q=S / 256:=⟨_,rfl⟩;have hqi:(S:Int) / 256=(q:Nat):=by rw[hq];simp
     have hSn:S≤D.n:=by rw[hS];exact Nat.div_le_self _ _
     have hwq:IntKind.u64.wrap (q:Int)=q:=by have h1:=HOK.o.2.2;rw[IntKind.wrap_u64];omega
     have HSQ:=ZA (⟨hS,hq⟩:S=D.n / 2 ^ (8*j)∧q=S / 256);have HSH:=ZA hS.symm;clear hSn hS hq;go_wp2_with fail;refine CS.mono ?_;rintro e w6 ⟨rfl,rfl⟩;clear CS e0;have HNL:=ZA (show ([.int .u8 j,.int .u64 q,.int .i64 m,.slice kA m kc]:List Value).length=4 from rfl);have HEX:=ZA ((Upd.refl none' w5).alloc (.cells ([.int .u8 j,.int .u64 q,.int .i64 m,.slice kA m kc]:List Value).toArray 160));have HO6:=ZA (ownsRow_upd HO5.o HEX.o (fun _ _=> id));have HCN:=ZA (CellsAt.new w5 [.int .u8 j,.int .u64 q,.int .i64 m,.slice kA m kc] 160);have HX1:Hid (∀u∈([.int .u8 j,.int .u64 q,.int .i64 m,.slice kA m kc]:List Value),u.oneCell'=true):=ZA (by intro u hu;simp only[List.mem_cons,List.not_mem_nil,or_false] at hu;rcases hu with rfl | rfl | rfl | rfl <;> rfl)
     have HLM6:=ZA (show n5+1≤maxLen∧(n5+1)*48≤140737488355328 by unfold maxLen;have:=HOL.o;have:=HOK.o.1;have:=HN5.o;omega);have HBW6:=ZA (show w.heap.size≤(w5.alloc (.cells ([.int .u8 j,.int .u64 q,.int .i64 m,.slice kA m kc]:List Value).toArray 160)).heap.size from Nat.le_trans HU5.o.size HEX.o.size);go_wp2_with (first
      | (refine wpList_run rfl (run_bop _ rfl (.int .u64 D.n) (.int .i64 (8*j:Nat)) (.int .u64 S) rfl rfl (run_shrU .i64 D.n (8*j) S (by omega) HSH.o _)) ?_)
      | (refine wpList_run rfl (exec_build _ [(0,.tmp 41),(1,.tmp 50),(2,.tmp 52)] rfl [(0,.int .u8 j),(1,.int .u64 q),(2,.int .i64 m)] _ rfl (run_tile _ j q m)) ?_)
      | (refine wpList_run rfl (exec_build _ [(0,.tmp 53),(1,.tmp 54)] rfl [(0,.agg #[.int .u8 j,.int .u64 q,.int .i64 m]),(1,.slice kA m kc)] _ rfl (run_laid _ j q m kA m kc)) ?_)
      | (refine wpList_run rfl (run_buildOneA _ 157 160 _ rfl [.int .u8 j,.int .u64 q,.int .i64 m,.slice kA m kc] rfl Tryz.underlying157 laid_size laid_zero (by show 0 < 4;omega) (by show 4≤16777216;omega)) ?_)
      | (at_builtin;(refine wpList_appX rfl _ _ 157 rfl w.heap.size 160 j0 jz 4 48 Tryz.underlying157 hj0 hjz hjs hjb hjc (by decide) (.slice A5 n5 c5) n5 _ rfl HO6.o (some ⟨w5.heap.size,0,none⟩) 1 1 [.int .u8 j,.int .u64 q,.int .i64 m,.slice kA m kc] rfl rfl HCN.o HX1.o HLM6.o.1 HLM6.o.2 HBW6.o ?_)))
     intro A7 c7 w7 hown7 hgrow7 _;have HO7:Hid (w7.ownsRow w.heap.size 160 4 (.slice A7 (n5+1) c7) (n5+1) (laidCs (out5++ [⟨j,q,m,D.es.getD j [],V.vs.getD j nilS⟩]))):=ZA (by rw[laidCs_app];rw[show laidCs [⟨j,q,m,D.es.getD j [],V.vs.getD j nilS⟩]= [.int .u8 j,.int .u64 q,.int .i64 m,.slice kA m kc] by rw[HEK.o];rfl];exact hown7)
     have HU7:=ZA ((HU5.o.alloc _).grown hgrow7 (fun g hg=> .inl (HO5.o.lt g hg).1));clear hown7 hgrow7;go_wp2_with fail;have hlt:=HLT.o;refine ⟨⟨j+1,out5++ [⟨j,q,m,D.es.getD j [],V.vs.getD j nilS⟩],by omega,rfl,?_,?_,?_,HU7.o⟩,by simp[RowKit.intOf];omega⟩
     ·rw[List.length_append,List.length_singleton,HOL5.o];exact HO7.o
     ·rw[List.map_append,HP5.o,tilesP_succ,tileK,if_pos ⟨HTB.o.symm,by show (D.es.getD j []).length≠0;rw[←HME.o];exact HM0.o⟩,List.append_assoc,HSQ.o.2,HSQ.o.1,HME.o];rfl
     ·intro x hx;rcases List.mem_append.1 hx with h1 | h1
      ·exact HX5.o x h1
      ·rw[List.mem_singleton.1 h1];exact HH.o.ee j
  ·have hji:¬(j:Int) < nt:=by omega
   have hjn:j=nt:=by omega
   have HJN:=ZA hjn;clear hlt hj hjn;go_wp2_with fail;go_ret;refine ⟨_,rfl,out,HOWN.o,?_,HXX.o,HU.o⟩;rw[HP.o,HJN.o,HNN.o.1]
def hasB(x:StD):Bool:=Lib.containsS (strs (namesL x.texts)) (str headB)
theorem names_has{b mb:Nat}{tv:Value}{w:World}(H:StAt w b mb tv x)(hL:x.texts.length≤4398046511104):
 Calls Tryz.prog 60 #[.pointer (some ⟨b,0,none⟩)] w fun e w'=> ∃sl,e= .returned sl∧Ext w w'∧∀w'',Ext w' w''→Calls Tryz.prog 59 #[sl,.string (str headB)] w'' fun e2 w3=> e2= .returned (.bool (hasB x))∧w3=w'':=by
 refine (names_any H hL).mono ?_;rintro e w' ⟨g,cap,rfl,hown,hu⟩;refine ⟨_,rfl,hu,fun w'' hx=> ?_⟩;have hl:(namesL x.texts).length=x.texts.length:=by have:=hown.1;rwa [List.length_map,Nat.mul_one] at this
 have hl2:(strs (namesL x.texts)).length=x.texts.length:=by rw[strs,List.length_map,hl]
 have C:=Tryz.slices_Contains_string g 0 x.texts.length cap (strs (namesL x.texts)) (str headB) w'' (by omega) (by omega) (fun j hj=> by
  have hj2:j < (namesL x.texts).length:=by rw[strs,List.length_map] at hj;exact hj
  have h:=(ownsRow_upd hown hx (fun _ _=> id)).cells (g:=g) rfl j (encStr (namesL x.texts)[j]) (by simp[hj2]);rw[Addr.add_lit] at h;refine h.trans ?_;simp[strs,List.getD_eq_getElem?_getD,hj2])
 rw[List.take_of_length_le (by omega)] at C;exact C
structure WrAt (w:World) (wb:Nat) (sp:Value) (o:List UInt8) (n:Nat) (root:HB) (ev:Value) (ended:Bool):Prop where
 blk:w.heap[wb]? =some (.cells (wrC sp o n root ev ended).toArray 144 (0,0))
def CrPost(se:Nat→Addr)(b mb:Nat)(tv:Value)(w:World)(o:List UInt8)(z:HB)(r:StD×EV)(e:Ending)(w':World):Prop:=
 StAt w' b mb tv r.1∧Upd (two b mb) w w'∧match r.2 with
  | some er=> e= .returned (.tuple #[.pointer none,evS se (some er)])
  | none=> ∃wb,e= .returned (.tuple #[.pointer (some ⟨wb,0,none⟩),.nilIface])∧WrAt w' wb (.pointer (some ⟨b,0,none⟩)) o 0 z (.slice none 0 0) false∧w.heap.size≤wb
theorem create_ok{B b mb:Nat}{se:Nat→Addr}{tv:Value}{w:World}(E:Env B se w)(H:StAt w b mb tv x)(hB:B≤b)(hM:B≤mb)(o:List UInt8)(hn:nameB o=true)(hol:o.length≤64)(hL:x.texts.length≤4398046511104)(hh:hasB x=false)(hnw:x.nw < 4611686018427387904)(z:HB)(hz:z=emptyH):
 Calls Tryz.prog 19 #[.pointer (some ⟨b,0,none⟩),.string (str o)] w (CrPost se b mb tv w o z (x.put (str headB) (str (ckptB o 0 z)))):=by
 have CT:=there_st E.g H;have HE:=ZA E;have HH:=ZA H;have HBM:=ZA (⟨hB,hM⟩:B≤b∧B≤mb);have HOL:=ZA hol;have HL:=ZA hL;have HN:=ZA hn;have HHB:=ZA hh;have HNW:=ZA hnw;generalize hr0:x.put (str headB) (str (ckptB o 0 z))=r at*;have HZ:=ZA hz;have HZ32:=ZA (show z.length=32 by rw[hz];exact emptyH_len);have HR0:=ZA hr0;clear E H hB hM hol hL hn hh hnw hr0 hz;go_enter Tryz.func19,Tryz.ntmps19;go_wp2_with fail;refine CT.mono ?_;rintro e w1 ⟨rfl,hx1⟩;have HX1:=ZA hx1;have CN:=name_any w1 o (by have:=HOL.o;omega) (HE.o.ext hx1).bt (HE.o.ext hx1).ut;rw[HN.o] at CN;clear hx1 CT;go_wp2_with fail;refine CN.mono ?_;rintro e w2 ⟨rfl,hx2⟩;have HX2:=ZA (HX1.o.trans hx2);have CS:=names_has (HH.o.ext HX2.o) HL.o;clear hx2 CN;go_wp2_with fail;refine CS.mono ?_;rintro e w3 ⟨sl,rfl,hx3,hc3⟩;have HX3:=ZA (HX2.o.trans hx3);have CC:=hc3 w3 (Upd.refl _ _);rw[HHB.o] at CC;clear hx3 hc3 CS;go_wp2_with fail;refine CC.mono ?_;rintro e w4 ⟨rfl,rfl⟩;clear CC;have CE:=empty_h w4 (HE.o.ext HX3.o).sgw (HE.o.ext HX3.o).sh;rw[←HZ.o] at CE;go_wp2_with fail;refine CE.mono ?_;rintro e w5 ⟨rfl,hx5⟩;have HX5:=ZA (HX3.o.trans hx5);clear hx5 CE;have HCS:=ZA (ck_size o 0 z HZ32.o);have HC1:=ZA (ck_one o 0 z);have HZL:=ZA (ck_len o 0 z HZ32.o);have HX6:=ZA (HX5.o.alloc (.cells (ckC o 0 z).toArray 36));have HQ6:=ZA (blk_alloc w5 (.cells (ckC o 0 z).toArray 36));have HCC:=ZA (blk_cells HQ6.o);have CP:=puts_any (HE.o.ext HX6.o) (HH.o.ext HX6.o) HBM.o.1 HBM.o.2 o 0 z HZ32.o HN.o HOL.o (by omega) HNW.o (by have:=HL.o;omega);rw[HR0.o] at CP;have HLW:=ZA HX5.o.size;go_wp2_with (first
  | (refine wpList_run rfl (exec_build _ [(0,.tmp 21),(2,.tmp 22)] rfl [(0,.string (str o)),(2,hashV z)] (ckV o 0 z) rfl (run_ck0 _ o z HZ32.o)) ?_)
  | (refine store_new rfl 36 _ _ rfl _ _ rfl (ckC o 0 z) rfl HCS.o (by rw[HZL.o];rfl) HC1.o ?_)
  | (refine wpList_loadAgg rfl 36 _ rfl w5.heap.size 0 rfl (ckC o 0 z) Tryz.underlying36 rfl HCS.o HCC.o ?_))
 refine CP.mono ?_;rintro e w7 ⟨rfl,hs,hu⟩;have HS:=ZA hs;have HU:=ZA (show Upd (two b mb) w w7 from (Upd.ext HX6.o (two b mb)).trans hu);have HQ7:=ZA (hu.blk HQ6.o (fun e=> by
  have h1:=lt_of_blk (HH.o.ext HX5.o).blk;have h2:mb < w5.heap.size:=by obtain ⟨es,c,hb⟩:=(HH.o.ext HX5.o).tex.blk;exact lt_of_blk hb
  rcases e with e | e <;> omega))
 have HCC7:=ZA (blk_cells HQ7.o);clear hs hu CP;generalize w5.heap.size=q at*;obtain ⟨x',er⟩:=r;cases er with
 | some er=>
  obtain ⟨k,p⟩:=er;simp only[evS];go_wp2_with fail;go_ret2;exact ⟨HS.o,HU.o,rfl⟩
 | none=>
  have HWR:=ZA (run_wr w7 b (ckC o 0 z) (ck_len o 0 z HZ32.o));simp only[evS];go_wp2_with (first
   | (refine wpList_loadAgg rfl 36 _ rfl q 0 rfl (ckC o 0 z) Tryz.underlying36 rfl HCS.o HCC7.o ?_)
   | (refine wpList_run rfl (exec_build _ [(0,.tmp 30),(1,.tmp 31)] rfl [(0,.pointer (some ⟨b,0,none⟩)),(1,.agg (ckC o 0 z).toArray)] _ rfl HWR.o) ?_))
  go_ret2;have X8:=(Upd.refl none' w7).alloc (.cells (Value.pointer (some ⟨b,0,none⟩)::(ckC o 0 z++ [.slice none 0 0,.bool false])).toArray 144);exact ⟨HS.o.ext X8,HU.o.thenExt X8,w7.heap.size,rfl,⟨blk_alloc w7 _⟩,HU.o.size⟩
theorem eq_slNil(w:World){e:TypeId}(A:Option Addr)(n c:Nat)(hu:Tryz.prog.underlying t=some (.slice e)):∀d,(Op.equalIn (d+1) t (.slice A n c) (.slice none 0 0)).run Tryz.prog w= .ok A.isNone w:=fun d=> by cases A <;> (simp only[Op.equalIn,Sem.run_bind,run_underlying hu,Result.andThen_ok];rfl)
theorem run_slNil{a:Act}{o:Oper}(w:World){x y:Operand}{tr e:TypeId}(ho:o.op= .binOp .eql t x y tr)(A:Option Addr)(n c:Nat)(hx:a.eval x= .slice A n c)(hy:a.eval y= .slice none 0 0)(hu:Tryz.prog.underlying t=some (.slice e)):
 (execOp a.eval o).run Tryz.prog w= .ok (.value (.bool A.isNone)) w:=by
 refine run_bop w ho _ _ _ hx hy ?_;have h2:(Op.equal t (.slice A n c) (.slice none 0 0)).run Tryz.prog w= .ok A.isNone w:=eq_slNil w A n c hu 9999;have h3:(eqGuard .eql t x y (.slice A n c) (.slice none 0 0)).run Tryz.prog w= .ok () w:=rfl;have h4:binOp .eql t (.slice A n c) (.slice none 0 0)=(do pure (.bool (←Op.equal t (.slice A n c) (.slice none 0 0)))):=rfl;rw[Sem.run_bind,h3,Result.andThen_ok,h4,Sem.run_bind,h2];rfl
theorem clone_any{B n:Nat}{v:Value}{xs:List Value}{w:World}(h:w.ownsRow B 33 32 v n xs)(h1:∀u∈xs,u.oneCell'=true)(hn:n≤65536):
 Calls Tryz.prog 66 #[v] w fun e w'=> ∃v',e= .returned v'∧w'.ownsRow w.heap.size 33 32 v' n xs∧Ext w w':=by
 obtain ⟨i0,hi0,hz0,hz1,hz2⟩:=info_parts info_hash;rcases own_form h with ⟨rfl,rfl⟩ | ⟨g,c,rfl,hb⟩
 ·have hx:xs= []:=List.eq_nil_of_length_eq_zero (by have:=h.1;omega);subst hx;clear h;go_enter Tryz.func66,Tryz.ntmps66;go_wp2_with (refine wpList_run rfl (run_slNil _ rfl none 0 0 rfl rfl Tryz.underlying113) ?_);go_ret;exact ⟨_,rfl,World.ownsRow_nil _ _ _ _,Upd.refl _ _⟩
 ·have HC:=ZA ((cells_own h).ext ((Upd.refl none' w).alloc (.cells #[] 33)));have HL:=ZA h.1;have H1:=ZA h1;have HLM:=ZA (show 0+n≤maxLen∧(0+n)*32≤140737488355328 by unfold maxLen;omega);have HO:Hid ((w.alloc (.cells #[] 33)).ownsRow w.heap.size 33 32 (.slice (some ⟨w.heap.size,0,none⟩) 0 0) 0 []):=ZA ⟨rfl,.inr ⟨w.heap.size,0,#[],rfl,Nat.le_refl _,blk_alloc _ _,Nat.le_refl _,by decide,by simp,by simp⟩⟩;have HB:=ZA (show w.heap.size≤(w.alloc (.cells #[] 33)).heap.size by simp);have HX:=ZA ((Upd.refl none' w).alloc (.cells #[] 33));clear h h1 hb;go_enter Tryz.func66,Tryz.ntmps66;go_wp2_with (first | (refine wpList_run rfl (run_slNil _ rfl (some ⟨g,0,none⟩) n c rfl rfl Tryz.underlying113) ?_) | at_builtin;(refine wpList_appX rfl _ _ 113 rfl w.heap.size 33 i0 _ 32 32 Tryz.underlying113 hi0 hz0 hz1 hz2 rfl (by decide) (.slice (some ⟨w.heap.size,0,none⟩) 0 0) 0 _ rfl HO.o (some ⟨g,0,none⟩) n c xs rfl HL.o HC.o H1.o HLM.o.1 HLM.o.2 HB.o ?_));intro A' c' w' hown hgrow _;have HOW:=ZA hown;have HU:=ZA (HX.o.grown hgrow (fun k hk=> .inl (by obtain rfl:=Option.some.inj hk;exact Nat.le_refl _)));clear hown hgrow;go_wp2_with fail;go_ret;exact ⟨_,rfl,HOW.o,HU.o⟩
def longS(s:List UInt8):Bool:=decide (65536 < s.length)
theorem long1_any(s:List UInt8)(w:World):Calls Tryz.prog 161 #[.string (str s)] w fun e w'=> e= .returned (.bool (longS s))∧w=w':=by
 obtain ⟨n,hn⟩:∃n,n=s.length:=⟨_,rfl⟩;have hs:(str s).size=n:=by rw[str_size,hn]
 have hb:longS s=decide (65536 < n):=by rw[hn];rfl
 have HBB:=ZA hb;clear hn hb;go_enter Tryz.func161,Tryz.ntmps161;go_wp2_with fail;go_ret;rw[HBB.o];exact ⟨by first | rfl | (simp;omega),rfl⟩
abbrev strC(ls:List (List UInt8)):List Value:=ls.map (fun s=> Value.string (str s))
theorem strC_get{w:World}{g o:Nat}{ls:List (List UInt8)}(h:CellsAt w (some ⟨g,o,none⟩) (strC ls))(j:Nat)(hj:j < ls.length):w.cell? ⟨g,o+j,none⟩=some (.string (str (ls.getD j []))):=
 h.cell (by rw[List.getElem?_map,List.getD_eq_getElem?_getD,List.getElem?_eq_getElem hj];rfl)
theorem cells_some{w:World}{cs:List Value}(h:CellsAt w A cs)(hA:A=none∨∃g o,A=some ⟨g,o,none⟩)(hc:0 < cs.length):∃g o,A=some ⟨g,o,none⟩:=by
 rcases hA with rfl | h2
 ·obtain ⟨ad,e,_⟩:=h 0 cs[0] (List.getElem?_eq_getElem hc);cases e
 ·exact h2
theorem ixf_any(A:Option Addr)(ls:List (List UInt8))(c:Nat)(w:World)(h:CellsAt w A (strC ls))(hA:A=none∨∃g o,A=some ⟨g,o,none⟩)(hl:ls.length≤65536):
 Calls Tryz.prog 237 #[.slice A ls.length c,.func (.func 161) #[] #[]] w fun e w'=> ∃r:Int,e= .returned (.int .i64 r)∧decide (0≤r)=ls.any longS∧w=w':=by
 have HH:=ZA h;have HA:=ZA hA;clear h hA;obtain ⟨n,hn⟩:∃n,n=ls.length:=⟨_,rfl⟩;have HN:=ZA hn;rw[←hn];rw[←hn] at hl;clear hn;go_enter Tryz.func237,Tryz.ntmps237;go_wp2_with fail;go_loopw [8] (fun jv wr=> ∃j:Nat,j≤n∧jv= .int .i64 j∧(ls.take j).any longS=false∧w=wr) (fun jv _=> n - (RowKit.intOf jv).toNat);case atStart=> exact ⟨0,Nat.zero_le _,rfl,by simp,rfl⟩
 case round=>
  obtain ⟨j,hj,rfl,ha,rfl⟩:=hrel;have HAN:=ZA ha;clear ha;by_cases hlt:j < n
  ·have hji:(j:Int) < n:=by omega
   obtain ⟨g,o,rfl⟩:=cells_some HH.o HA.o (by rw[List.length_map,←HN.o];omega);have cc:=strC_get HH.o j (by rw[←HN.o];exact hlt);have C:=long1_any (ls.getD j []) w;have HTK:=ZA (show ls.take (j+1)=ls.take j++ [ls.getD j []] by rw[List.take_succ_eq_append_getElem (by rw[←HN.o];exact hlt),List.getD_eq_getElem?_getD,List.getElem?_eq_getElem (by rw[←HN.o];exact hlt)];rfl);obtain ⟨s,hs⟩:∃s,s=ls.getD j []:=⟨_,rfl⟩;rw[←hs] at cc C HTK;have HSS:=ZA (show s∈ls by rw[hs,List.getD_eq_getElem?_getD,List.getElem?_eq_getElem (by rw[←HN.o];exact hlt)];exact List.getElem_mem _);have HJ:=ZA hlt;clear hs hlt;go_wp2_with fail;refine C.mono ?_;rintro e w1 ⟨rfl,rfl⟩;clear C;cases hb:longS s with
   | false=>
    have HB:=ZA hb;clear hb;go_wp2_with fail;have:=HJ.o;refine ⟨⟨j+1,by omega,rfl,?_,trivial⟩,by simp[RowKit.intOf];omega⟩;rw[HTK.o,List.any_append,HAN.o,List.any_cons,HB.o];rfl
   | true=>
    have HB:=ZA hb;clear hb;go_wp2_with fail;go_ret;refine ⟨_,rfl,?_,rfl⟩;rw[List.any_eq_true.2 ⟨s,HSS.o,HB.o⟩];simp
  ·have hji:¬(j:Int) < n:=by omega
   have HJ:=ZA (show j=n by omega);clear hlt hj;go_wp2_with fail;go_ret;refine ⟨_,rfl,?_,rfl⟩;have h:=HAN.o;rw[HJ.o,List.take_of_length_le (by rw[HN.o];exact Nat.le_refl _)] at h;rw[h];decide
theorem cnf_any(A:Option Addr)(ls:List (List UInt8))(c:Nat)(w:World)(h:CellsAt w A (strC ls))(hA:A=none∨∃g o,A=some ⟨g,o,none⟩)(hl:ls.length≤65536):
 Calls Tryz.prog 160 #[.slice A ls.length c,.func (.func 161) #[] #[]] w fun e w'=> e= .returned (.bool (ls.any longS))∧w=w':=by
 have C:=ixf_any A ls c w h hA hl;clear h hA hl;generalize ls.any longS=r at*;generalize ls.length=n at*;go_enter Tryz.func160,Tryz.ntmps160;go_wp2_with fail;refine C.mono ?_;rintro e w1 ⟨k,rfl,hk,rfl⟩;have HK:=ZA hk;clear C hk;go_wp2_with fail;go_ret;rw[←HK.o];exact ⟨by first | rfl | simp,rfl⟩
theorem wrC_mid(sp:Value)(o:List UInt8)(n:Nat)(root:HB)(ev:Value)(ended:Bool):∀i v,(ckC o n root)[i]? =some v→(wrC sp o n root ev ended)[1+i]? =some v:=fun i v hv=> by unfold wrC;rw[show 1+i=i+1 by omega,List.getElem?_cons_succ,List.getElem?_append_left (List.getElem?_eq_some_iff.1 hv).1];exact hv
theorem wrC_ev(sp:Value)(o:List UInt8)(n:Nat)(root:HB)(ev:Value)(ended:Bool)(hr:root.length=32):(wrC sp o n root ev ended)[36]? =some ev∧(wrC sp o n root ev ended)[37]? =some (.bool ended):=by
 unfold wrC;have h:=ck_len o n root hr;constructor
 ·rw[show (36:Nat)=35+1 from rfl,List.getElem?_cons_succ,List.getElem?_append_right (by omega),h];rfl
 ·rw[show (37:Nat)=36+1 from rfl,List.getElem?_cons_succ,List.getElem?_append_right (by omega),h];rfl
section
variable {w w':World} {wb:Nat} {sp:Value} {o:List UInt8} {n:Nat} {root:HB} {ev:Value} {ended:Bool}
theorem WrAt.cell(h:WrAt w wb sp o n root ev ended){i:Nat}{v:Value}(hv:(wrC sp o n root ev ended)[i]? =some v):w.cell? ⟨wb,i,none⟩=some v:=by rw[cell_of_blk h.blk i];simpa using hv
theorem WrAt.c0(h:WrAt w wb sp o n root ev ended):w.cell? ⟨wb,0,none⟩=some sp:=h.cell rfl
theorem WrAt.c1(h:WrAt w wb sp o n root ev ended):w.cell? ⟨wb,1,none⟩=some (.string (str o)):=h.cell rfl
theorem WrAt.c2(h:WrAt w wb sp o n root ev ended):w.cell? ⟨wb,2,none⟩=some (.int .u64 n):=h.cell rfl
theorem WrAt.ck(h:WrAt w wb sp o n root ev ended):∀i v,(ckC o n root)[i]? =some v→w.cell? ⟨wb,1+i,none⟩=some v:=fun i v hv=> h.cell (wrC_mid sp o n root ev ended i v hv)
theorem WrAt.c36(h:WrAt w wb sp o n root ev ended)(hr:root.length=32):w.cell? ⟨wb,36,none⟩=some ev:=h.cell (wrC_ev sp o n root ev ended hr).1
theorem WrAt.c37(h:WrAt w wb sp o n root ev ended)(hr:root.length=32):w.cell? ⟨wb,37,none⟩=some (.bool ended):=h.cell (wrC_ev sp o n root ev ended hr).2
theorem WrAt.upd{S:Nat→Prop}(h:WrAt w wb sp o n root ev ended)(u:Upd S w w')(hS:¬S wb):WrAt w' wb sp o n root ev ended:=⟨u.blk h.blk hS⟩
theorem WrAt.ext(h:WrAt w wb sp o n root ev ended)(u:Ext w w'):WrAt w' wb sp o n root ev ended:=h.upd u id
end
theorem long_any{w:World}{wb:Nat}{sp:Value}{o:List UInt8}{n:Nat}{root:HB}{ev:Value}{ended:Bool}(H:WrAt w wb sp o n root ev ended)(hn:n≤1048576)(A:Option Addr)(ls:List (List UInt8))(c:Nat)(h:CellsAt w A (strC ls))(hA:A=none∨∃g o,A=some ⟨g,o,none⟩)(hl:ls.length≤65536):
 Calls Tryz.prog 63 #[.pointer (some ⟨wb,0,none⟩),.slice A ls.length c] w fun e w'=> e= .returned (.bool (decide (4096 < ls.length) || decide (1048576 < n+ls.length) || ls.any longS))∧w=w':=by
 have C:=cnf_any A ls c w h hA hl;have c2:=H.c2;generalize ls.any longS=r at*;generalize ls.length=m at*;clear H h hA;by_cases h1:4096 < m
 ·have h1i:(4096:Int) < m:=by omega
  have hr:(decide (4096 < m) || decide (1048576 < n+m) || r)=true:=by simp[h1]
  have HR:=ZA hr;clear h1 hr;go_enter Tryz.func63,Tryz.ntmps63;go_wp2_with fail;go_ret;first | exact ⟨rfl,rfl⟩ | (rw[HR.o];exact ⟨rfl,rfl⟩)
 ·have h1i:¬(4096:Int) < m:=by omega
  have hw:IntKind.u64.wrap (m:Int)=m:=by rw[IntKind.wrap_u64];omega
  have hw2:IntKind.u64.wrap ((n:Int)+m)=((n+m:Nat):Int):=by rw[IntKind.wrap_u64];omega
  by_cases h2:1048576 < n+m
  ·have h2i:decide (1048576 < n+m)=true:=by simp[h2]
   have h2j:(1048576:Int) < (n:Int)+m:=by omega
   have hr:(decide (4096 < m) || decide (1048576 < n+m) || r)=true:=by simp[h2]
   have HR:=ZA hr;clear h1 h2 hr;go_enter Tryz.func63,Tryz.ntmps63;go_wp2_with fail;go_ret;first | exact ⟨rfl,rfl⟩ | (rw[HR.o];exact ⟨rfl,rfl⟩)
  ·have h2i:decide (1048576 < n+m)=false:=by simp;omega
   have h2j:¬(1048576:Int) < (n:Int)+m:=by omega
   have hr:(decide (4096 < m) || decide (1048576 < n+m) || r)=r:=by simp[h1,h2i]
   have HR:=ZA hr;clear h1 h2 hr;go_enter Tryz.func63,Tryz.ntmps63;go_wp2_with fail;refine C.mono ?_;rintro e w1 ⟨rfl,rfl⟩;clear C;go_wp2_with fail;go_ret;first | exact ⟨rfl,rfl⟩ | (rw[HR.o];exact ⟨rfl,rfl⟩)
def z32B:HB:=List.replicate 32 0
theorem z32B_len:z32B.length=32:=by simp[z32B]
theorem ckz_size:(Tryz.prog.info? 36).map (·.size)=some (ckC [] 0 z32B).length:=ck_size [] 0 z32B z32B_len
theorem ckp_any{w:World}{wb:Nat}{sp:Value}{o:List UInt8}{n:Nat}{root:HB}{ev:Value}{ended:Bool}(H:WrAt w wb sp o n root ev ended)(hr:root.length=32):Calls Tryz.prog 35 #[.pointer (some ⟨wb,0,none⟩)] w fun e w'=> e= .returned (ckV o n root)∧Ext w w':=by
 have HS:=ZA (ck_size o n root hr);have HZ:=ZA (ck_len o n root hr);have H1:=ZA (ck_one o n root);have HQ:=ZA (blk_alloc w (.cells (ckC o n root).toArray 36));have HX:=ZA ((Upd.refl none' w).alloc (.cells (ckC o n root).toArray 36));have HC:=ZA (fun (z:Array Value)=> (H.ext ((Upd.refl none' w).alloc (.cells z 36))).ck);clear H hr;go_enter Tryz.func35,Tryz.ntmps35;go_wp2_with (first
  | (refine wpList_loadAgg rfl 36 _ rfl wb 1 rfl (ckC o n root) Tryz.underlying36 rfl HS.o (HC.o _) ?_)
  | (refine store_new rfl 36 _ _ rfl _ _ rfl (ckC o n root) rfl HS.o (by rw[HZ.o];rfl) H1.o ?_))
 have hsz:(Tryz.prog.info? 36).map (·.size)=some (ckC o n root).toArray.size:=HS.o;exact bodyPost_ret (v:=ckV o n root) (results_cell_row rfl _ _ w.heap.size 36 _ (0,0) _ rfl HQ.o Tryz.underlying36 rfl hsz) rfl ⟨rfl,HX.o⟩
theorem list_ext{α:Type}(d:α){a b:List α}(hl:a.length=b.length)(h:∀k,a.getD k d=b.getD k d):a=b:=by refine List.ext_getElem hl fun i h1 h2=> ?_;have:=h i;rw[List.getD_eq_getElem?_getD,List.getD_eq_getElem?_getD,List.getElem?_eq_getElem h1,List.getElem?_eq_getElem h2] at this;exact this
def addP(n:Nat)(y:HB)(G:GrP):GrP:=pushes n (peaksE nodeH G.es) y G (ones n / 8+1)
def addsP:Nat→List HB→GrP→GrP
 | _,[],G=> G
 | n,y::ys,G=> addsP (n+1) ys (addP n y G)
theorem addsP_snoc:∀(ys:List HB) (n:Nat) (y:HB) (G:GrP),addsP n (ys++ [y]) G=addP (n+ys.length) y (addsP n ys G)
 | [],n,y,G=> rfl
 | z::ys,n,y,G=> by show addsP (n+1) (ys++ [y]) (addP n z G)=addP (n+(ys.length+1)) y (addsP (n+1) ys (addP n z G));rw[addsP_snoc,show n+1+ys.length=n+(ys.length+1) by omega]
theorem pushes_at(n:Nat)(y:HB)(G:GrP)(hf:fitsP n G.es):∀m,m≤lead G.es+1→
 (pushes n (peaksE nodeH G.es) y G m).es.length=max G.es.length m∧∀j,(pushes n (peaksE nodeH G.es) y G m).es.getD j []=if j < m then (if j < lead G.es then [] else G.es.getD j []++ [cE nodeH j G.es y]) else G.es.getD j []:=by
 have hs:=step_main nodeH G.es n y hf;intro m;induction m with
 | zero=>
  intro _;exact ⟨by simp[pushes],fun j=> by rw[if_neg (Nat.not_lt_zero _)];rfl⟩
 | succ m ih=>
  intro hm;obtain ⟨h1,h2⟩:=ih (by omega);have hx:cr nodeH (peaksE nodeH G.es) (8*m) y=cE nodeH m G.es y:=hs.2.2.2.2 m (by omega);have hg:(pushes n (peaksE nodeH G.es) y G m).es.getD m []=G.es.getD m []:=by rw[h2,if_neg (Nat.lt_irrefl _)]
  rw[pushes_succ,hx];generalize pushes n (peaksE nodeH G.es) y G m=P at*;have hpl:(padL P.es (m+1) []).length=max G.es.length (m+1):=by rw[padL_len,h1];omega
  have hml:m < (padL P.es (m+1) []).length:=by rw[hpl];omega
  unfold pushP;simp only[padL_getD,hg];by_cases hf2:(G.es.getD m []).length+1=256
  ·rw[if_pos hf2];have hlt:m < lead G.es:=by
    rcases Nat.lt_or_ge m (lead G.es) with h | h
    ·exact h
    ·exfalso;have he:m=lead G.es:=by omega
     exact lead_not G.es (by rw[←he];omega)
   refine ⟨by show ((padL P.es (m+1) []).set m []).length=_;rw[List.length_set,hpl],fun j=> ?_⟩;show ((padL P.es (m+1) []).set m []).getD j []=_;rw[getD_put _ _ _ _ _ hml,padL_getD];by_cases hj:j=m
   ·subst hj;rw[if_pos rfl,if_pos (by omega),if_pos hlt]
   ·rw[if_neg hj,h2];by_cases hj2:j < m
    ·rw[if_pos hj2,if_pos (show j < m+1 by omega)]
    ·rw[if_neg hj2,if_neg (show¬j < m+1 by omega)]
  ·rw[if_neg hf2];have hlt:¬m < lead G.es:=fun h=> hf2 (by rw[lead_full G.es m h]);refine ⟨by show ((padL P.es (m+1) []).set m _).length=_;rw[List.length_set,hpl],fun j=> ?_⟩;show ((padL P.es (m+1) []).set m (G.es.getD m []++ [cE nodeH m G.es y])).getD j []=_;rw[getD_put _ _ _ _ _ hml,padL_getD];by_cases hj:j=m
   ·subst hj;rw[if_pos rfl,if_pos (by omega),if_neg hlt]
   ·rw[if_neg hj,h2];by_cases hj2:j < m
    ·rw[if_pos hj2,if_pos (show j < m+1 by omega)]
    ·rw[if_neg hj2,if_neg (show¬j < m+1 by omega)]
theorem stepE_len(es:List (List HB))(h:HB):(stepE nodeH es h).length=max es.length (lead es+1):=by rw[stepE_eq,List.length_append,List.length_replicate,List.length_cons,List.length_drop];have:=lead_le es;omega
theorem addP_es(n:Nat)(y:HB)(G:GrP)(hf:fitsP n G.es):(addP n y G).es=stepE nodeH G.es y:=by
 have hs:=step_main nodeH G.es n y hf;have h:=pushes_at n y G hf (lead G.es+1) (Nat.le_refl _);unfold addP;rw[←hs.2.2.2.1];refine list_ext [] (by rw[h.1,stepE_len]) fun k=> ?_;rw[h.2,stepE_get];by_cases h1:k < lead G.es
 ·rw[if_pos (by omega),if_pos h1,if_pos h1]
 ·rw[if_neg h1,if_neg h1];by_cases h2:k=lead G.es
  ·rw[if_pos (by omega),if_pos h2]
  ·rw[if_neg (by omega),if_neg h2]
theorem pushes_ts(n:Nat)(l:List HB)(y:HB)(G:GrP):∀m,(pushes n l y G m).ts.length=max G.ts.length m∧(∀j,(pushes n l y G m).ts.getD j false=(decide (j < m) || G.ts.getD j false))
 | 0=> ⟨by simp[pushes],fun j=> by simp[pushes]⟩
 | m+1=> by
  obtain ⟨h1,h2⟩:=pushes_ts n l y G m;have h:(pushes n l y G (m+1)).ts=(padL (pushes n l y G m).ts (m+1) false).set m true:=by rw[pushes_succ];unfold pushP;simp only[];split <;> rfl
  rw[h];have hm:m < (padL (pushes n l y G m).ts (m+1) false).length:=by rw[padL_len];omega
  refine ⟨by rw[List.length_set,padL_len,h1];omega,fun j=> ?_⟩;rw[getD_put _ _ _ _ _ hm,padL_getD,h2];by_cases hj:j=m
  ·subst hj;simp
  ·rw[if_neg hj];by_cases hj2:j < m
   ·simp[hj2,show j < m+1 by omega]
   ·simp[hj2,show¬j < m+1 by omega]
theorem okP_mono{M M':Nat}(h:okP M G)(hM:M≤M'):okP M' G:=⟨h.e,h.t,h.lt,fun k=> Nat.le_trans (h.l k) hM,h.h⟩
structure GInv (n M:Nat) (G:GrP):Prop where
 f:fitsP n G.es
 h:E32 G.es
 k:okP M G
 t:G.ts.length≤G.es.length
 t8:G.ts.length≤3
theorem getD_E32{es:List (List HB)}(h:∀k,(es.getD k []).length < 256∧H32 (es.getD k [])):E32 es:=fun e he=> by obtain ⟨i,hi,rfl⟩:=List.getElem_of_mem he;have:=h i;rw[List.getD_eq_getElem?_getD,List.getElem?_eq_getElem hi] at this;exact ⟨this.2,this.1⟩
theorem GInv.ones{n M:Nat}(h:GInv n M G):ones n≤(peaksE nodeH G.es).length:=(step_main nodeH G.es n [] h.f).1
theorem ones_20{n:Nat}(hn:n < 1048576):ones n≤20:=by have:=ones_lt 21 n (by omega);omega
theorem GInv.add{n M:Nat}(h:GInv n M G)(hn:n < 1048576){y:HB}(hy:y.length=32):GInv (n+1) (M+3) (addP n y G):=by
 have hs:=step_main nodeH G.es n y h.f;have h20:=ones_20 hn;have hk:okP (M+3) (addP n y G):=okP_mono (pushes_ok (m:=Go.Proofs.YtjnjpgdoncbahaaGreatDoor.ones n / 8+1) h.k (peaksE_32 _ h.h) hy (fun k hk=> by have:=hs.1;omega) (by omega)) (by omega);have ht:=(pushes_ts n (peaksE nodeH G.es) y G (Go.Proofs.YtjnjpgdoncbahaaGreatDoor.ones n / 8+1)).1;refine ⟨by rw[addP_es n y G h.f];exact hs.2.2.1,getD_E32 hk.h,hk,?_,?_⟩
 ·rw[addP_es n y G h.f,stepE_len,hs.2.2.2.1];show (pushes _ _ _ _ _).ts.length≤_;rw[ht];have:=h.t;omega
 ·show (pushes _ _ _ _ _).ts.length≤_;rw[ht];have:=h.t8;omega
theorem GInv.adds:∀(ys:List HB) {n M:Nat} {G:GrP},GInv n M G→n+ys.length≤1048576→H32 ys→GInv (n+ys.length) (M+3*ys.length) (addsP n ys G)
 | [],n,M,G,h,_,_=> h
 | y::ys,n,M,G,h,hn,hy=> by have h1:=h.add (by simp at hn;omega) (hy y (by simp));have h2:=GInv.adds ys h1 (by simp at hn;omega) (fun z hz=> hy z (by simp[hz]));show GInv (n+(ys.length+1)) (M+3*(ys.length+1)) (addsP (n+1) ys (addP n y G));rw[show n+(ys.length+1)=n+1+ys.length by omega,show M+3*(ys.length+1)=M+3+3*ys.length by omega];exact h2
theorem addsP_es:∀(ys:List HB) (n:Nat) (G:GrP),fitsP n G.es→(addsP n ys G).es=ys.foldl (stepE nodeH) G.es
 | [],_,_,_=> rfl
 | y::ys,n,G,h=> by show (addsP (n+1) ys (addP n y G)).es=_;rw[addsP_es ys (n+1) (addP n y G) (by rw[addP_es n y G h];exact (step_main nodeH G.es n y h).2.2.1),addP_es n y G h];rfl
def gr0(es:List (List HB)):GrP:=⟨es,[],[]⟩
theorem GInv.start{n:Nat}{es:List (List HB)}(hf:fitsP n es)(h:E32 es)(hl:es.length≤64):GInv n 0 (gr0 es):=by
 refine ⟨hf,h,⟨hl,by simp[gr0],rfl,fun k=> by simp[gr0],fun k=> ?_⟩,by simp[gr0],by simp[gr0]⟩;show (es.getD k []).length < 256∧H32 (es.getD k []);rcases Nat.lt_or_ge k es.length with hk | hk
 ·have:=h es[k] (List.getElem_mem hk);rw[List.getD_eq_getElem?_getD,List.getElem?_eq_getElem hk];exact ⟨this.2,this.1⟩
 ·rw[List.getD_eq_getElem?_getD,List.getElem?_eq_none hk];exact ⟨by simp,H32.nil⟩
theorem peaks_pop{n:Nat}{es:List (List HB)}(hf:fitsP n es)(hn:n < 16777216):(peaksE nodeH es).length=pop3 n:=by
 unfold pop3;have p0:plen 8 0=0:=by kernel_rfl
 match es,hf with
 | [],hf=>
  have:n=0:=hf;subst this;simp[peaksE,p0]
 | [a],hf=>
  obtain ⟨_,h1,h2⟩:=hf;have h2:n / 256=0:=h2;simp only[peaksE,List.nil_append,pkD_plen,h1];rw[h2,show n / 65536=0 by omega];simp[p0]
 | [a,b],hf=>
  obtain ⟨_,h1,_,h2,h3⟩:=hf;have h3:n / 256 / 256=0:=h3;simp only[peaksE,List.nil_append,List.length_append,pkD_plen,h1,h2];rw[show n / 65536=0 by omega,p0];omega
 | [a,b,c],hf=>
  obtain ⟨_,h1,_,h2,_,h3,h4⟩:=hf;have h4:n / 256 / 256 / 256=0:=h4;simp only[peaksE,List.nil_append,List.length_append,pkD_plen,h1,h2,h3];rw[show n / 256 / 256 % 256=n / 65536 by omega];omega
 | a::b::c::d::es,hf=>
  obtain ⟨_,_,_,_,_,_,h4,_⟩:=hf;omega
theorem fits_3{n:Nat}{es:List (List HB)}(hf:fitsP n es)(hn:n < 16777216):es.length≤3:=(fits_len es n 3 hf).1 (by omega)
def putP(r:StD×EV)(p:ByteArray×ByteArray):StD×EV:=match r.2 with | none=> r.1.put p.1 p.2 | some _=> r
theorem putL_le(L:TxtL)(s t:ByteArray):(putL L s t).length≤L.length+1:=by
 induction L with
 | nil=> simp[putL]
 | cons a L ih=>
  obtain ⟨k,v⟩:=a;rw[putL];split <;> simp <;> omega
theorem put_grow(x:StD)(s t:ByteArray):(x.put s t).1.nw≤x.nw+1∧(x.put s t).1.texts.length≤x.texts.length+1:=by
 have:=putL_le x.texts s t;unfold StD.put;split
 ·exact ⟨by simp,by simp⟩
 ·split
  ·exact ⟨by simp,by simp⟩
  ·split
   ·exact ⟨by simp,this⟩
   ·exact ⟨by simp,this⟩
theorem putP_grow(r:StD×EV)(p:ByteArray×ByteArray):(putP r p).1.nw≤r.1.nw+1∧(putP r p).1.texts.length≤r.1.texts.length+1:=by
 unfold putP;split
 ·exact put_grow _ _ _
 ·exact ⟨by omega,by omega⟩
abbrev three(a b c:Nat):Nat→Prop:=fun g=> g=a∨g=b∨g=c
structure ClAt (w:World) (q a wb b mb:Nat) (se:Nat→Addr) (tv:Value) (o:List UInt8) (n:Nat) (root:HB) (ev:Value) (r:StD×EV):Prop where
 ok:w.heap[q]? =some (.cells #[evS se r.2] 24 (0,0))
 box:w.heap[a]? =some (.cells #[.pointer (some ⟨wb,0,none⟩)] 40 (0,0))
 wr:WrAt w wb (.pointer (some ⟨b,0,none⟩)) o n root ev false
 st:StAt w b mb tv r.1
theorem size_err:(Tryz.prog.info? 24).map (·.size)=some 1:=by kernel_rfl
theorem evS_cells(se:Nat→Addr)(e:EV):(evS se e).cells=#[evS se e]∧(evS se e).oneCell'=true:=by
 cases e with
 | none=> exact ⟨rfl,rfl⟩
 | some e=> obtain ⟨k,p⟩:=e;exact ⟨rfl,rfl⟩
theorem ClAt.upd{S:Nat→Prop}{w w':World}{q a wb b mb:Nat}{se:Nat→Addr}{tv:Value}{o:List UInt8}{n:Nat}{root:HB}{ev:Value}(h:ClAt w q a wb b mb se tv o n root ev r)(u:Upd S w w')(h1:¬S q)(h2:¬S a)(h3:¬S wb)(h4:¬S b)(h5:¬S mb)(h6:∀g,tv.ownBlock=some g→¬S g):ClAt w' q a wb b mb se tv o n root ev r:=
 ⟨u.blk h.ok h1,u.blk h.box h2,h.wr.upd u h3,h.st.upd u h4 h5 h6⟩
theorem ClAt.ext{w w':World}{q a wb b mb:Nat}{se:Nat→Addr}{tv:Value}{o:List UInt8}{n:Nat}{root:HB}{ev:Value}(h:ClAt w q a wb b mb se tv o n root ev r)(u:Ext w w'):ClAt w' q a wb b mb se tv o n root ev r:=h.upd u id id id id id (fun _ _=> id)
theorem put1_any{B q a wb b mb:Nat}{se:Nat→Addr}{tv:Value}{o:List UInt8}{n:Nat}{root:HB}{ev:Value}{w:World}(G:Genv B se w)(H:ClAt w q a wb b mb se tv o n root ev r)(hB:B≤b)(hM:B≤mb)(s t:ByteArray)(hs:s.size≤maxLen)(ht:t.size≤maxLen)(hn:r.1.nw < 4611686018427387904)(hL:r.1.texts.length < 4611686018427387904):
 Calls Tryz.prog 67 #[.string s,.string t,.pointer (some ⟨q,0,none⟩),.pointer (some ⟨a,0,none⟩)] w fun e w'=> e= .returned (.tuple #[])∧ClAt w' q a wb b mb se tv o n root ev (putP r (s,t))∧Upd (three b mb q) w w':=by
 have c0:w.cell? ⟨q,0,none⟩=some (evS se r.2):=cell_of_blk H.ok 0;have HH:=ZA H;have HG:=ZA G;have hneq:∀g,g=b∨g=mb→g≠q∧g≠a∧g≠wb:=fun g hg=> by
  obtain ⟨es,c,hmb⟩:=H.st.tex.blk;rcases hg with rfl | rfl
  ·exact ⟨tyNe H.st.blk H.ok (by decide),tyNe H.st.blk H.box (by decide),tyNe H.st.blk H.wr.blk (by decide)⟩
  ·refine ⟨fun e=> ?_,fun e=> ?_,fun e=> ?_⟩
   ·rw[e,H.ok] at hmb;cases hmb
   ·rw[e,H.box] at hmb;cases hmb
   ·rw[e,H.wr.blk] at hmb;cases hmb
 have HNE:=ZA hneq;cases hr:r.2 with
 | some er=>
  have hp:putP r (s,t)=r:=by unfold putP;rw[hr]
  obtain ⟨k,p⟩:=er;rw[hr] at c0;replace c0:w.cell? ⟨q,0,none⟩=some (sv se k):=c0;have HP:=ZA hp;clear H G hneq hp hr;go_enter Tryz.func67,Tryz.ntmps67;go_wp2_with fail;go_end0;exact ⟨rfl,by rw[HP.o];exact HH.o,Upd.refl _ _⟩
 | none=>
  have hp:putP r (s,t)=r.1.put s t:=by unfold putP;rw[hr]
  rw[hr] at c0;replace c0:w.cell? ⟨q,0,none⟩=some .nilIface:=c0;have c1:w.cell? ⟨a,0,none⟩=some (.pointer (some ⟨wb,0,none⟩)):=cell_of_blk H.box 0;have c2:w.cell? ⟨wb,0,none⟩=some (.pointer (some ⟨b,0,none⟩)):=H.wr.c0;have C:=put_any G H.st hB hM s t hs ht hn hL;have HP:=ZA hp;clear H G hneq hp hr hB hM hs ht hn hL;generalize r.1.put s t=r' at*;go_enter Tryz.func67,Tryz.ntmps67;go_wp2_with fail;refine C.mono ?_;rintro e w1 ⟨rfl,hst,hu⟩;have HST:=ZA hst;have HU:=ZA hu;have HQ1:=ZA (hu.blk HH.o.ok (fun e=> (HNE.o q (by rcases e with e | e;exact .inl e;exact .inr e)).1 rfl));have HA1:=ZA (hu.blk HH.o.box (fun e=> (HNE.o a (by rcases e with e | e;exact .inl e;exact .inr e)).2.1 rfl));have HW1:=ZA (HH.o.wr.upd hu (fun e=> (HNE.o wb (by rcases e with e | e;exact .inl e;exact .inr e)).2.2 rfl));have q0:w1.cell? ⟨q,0,none⟩=some (evS se r.2):=cell_of_blk HQ1.o 0;have qf:=free_of_blk HQ1.o 0;have HFIN:Hid (∀v,w1.setCell ⟨q,0,none⟩ v=w1.setCell ⟨q,0,none⟩ (evS se r'.2)→ClAt (w1.setCell ⟨q,0,none⟩ v) q a wb b mb se tv o n root ev r'∧Upd (three b mb q) w (w1.setCell ⟨q,0,none⟩ v)):=ZA (fun v hv=> by rw[hv];have u:=(Upd.refl (one q) w1).setCell (p:=⟨q,0,none⟩) (.inr rfl) (evS se r'.2);have n1:∀g,g=b∨g=mb→¬one q g:=fun g hg e=> (HNE.o g hg).1 e;have n2:¬one q a:=fun e=> tyNe HH.o.ok HH.o.box (by decide) (show a=q from e).symm;have n3:¬one q wb:=fun e=> tyNe HH.o.ok HH.o.wr.blk (by decide) (show wb=q from e).symm;refine ⟨⟨by have:=blk_set HQ1.o 0 (evS se r'.2);simpa using this,u.blk HA1.o n2,HW1.o.upd u n3,HST.o.upd u (n1 b (.inl rfl)) (n1 mb (.inr rfl)) (fun g hg e=> ?_)⟩,(HU.o.mono (fun g _ hg=> by rcases hg with e | e;exact .inl e;exact .inr (.inl e))).setCell (p:=⟨q,0,none⟩) (.inr (.inr (.inr rfl))) _⟩;exact rowNe HST.o.row HQ1.o (by decide) g hg e)
  clear C hst hu c0 c1 c2;obtain ⟨x',er⟩:=r';cases er with
  | none=>
   simp only[evS];go_wp2_with fail;go_end0;rw[HP.o];exact ⟨rfl,HFIN.o _ rfl⟩
  | some er=>
   obtain ⟨k,p⟩:=er;simp only[evS];go_wp2_with fail;go_end0;rw[HP.o];exact ⟨rfl,HFIN.o _ rfl⟩
end Go.Proofs.YtjnjpgdoncbahaaGreatDoor
