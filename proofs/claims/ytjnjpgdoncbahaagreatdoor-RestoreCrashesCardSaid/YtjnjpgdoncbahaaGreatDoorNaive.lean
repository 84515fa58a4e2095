/- naive.New, Append, Size, Leaf by contracts. shape.Split, naive's Tree and Root by contracts. PRINTED by wip/tools/gen_ntree.py. tile.In by contract. tile.Decode by contract. One hash of a row of hashes, its cells. writer.Create, Resume of a store that is not there, by contracts; the statements' fresh. tile.All by contract. The statements' short and logged of chapter 25 by contracts. plan.Fold by contract. PRINTED by wip/tools/gen_rsroot.py. restore.root by contract. PRINTED by wip/tools/gen_rsroot.py. -/
import Derived.Test.YtjnjpgdoncbahaaGreatDoorApD
import Derived.Test.YtjnjpgdoncbahaaGreatDoorGrT
import Derived.Test.YtjnjpgdoncbahaaGreatDoorTxt
import Derived.Test.YtjnjpgdoncbahaaGreatDoorAgg
import Derived.Test.YtjnjpgdoncbahaaGreatDoorApp
import Derived.Test.YtjnjpgdoncbahaaGreatDoorTyped3
import Derived.Test.YtjnjpgdoncbahaaGreatDoorGrW
import Derived.Test.YtjnjpgdoncbahaaGreatDoorShelf
import Derived.Test.YtjnjpgdoncbahaaGreatDoorShaD
import Derived.Test.YtjnjpgdoncbahaaGreatDoorTileH
import Derived.Lib.ItoaNum
import Derived.Laws.EntriesVeiled
import Derived.Test.YtjnjpgdoncbahaaGreatDoorDec
import Derived.Laws.Cover3
import Derived.Test.YtjnjpgdoncbahaaGreatDoorWrN
import Derived.Test.YtjnjpgdoncbahaaGreatDoorGrAdd
namespace Go.Proofs.YtjnjpgdoncbahaaGreatDoor
open Go.RowKit Go.Lib Go.Sort
set_option maxRecDepth 20000
set_option maxHeartbeats 16000000
structure NvAt (B:Nat) (w:World) (lb:Nat) (lv:Value) (ls:List (List UInt8)):Prop where
 blk:w.heap[lb]? =some (.cells #[lv,.bool true] 197 (0,0))
 row:w.ownsRow B 9 1 lv ls.length (ls.map encStr)
 lo:B≤lb
 sz:∀s∈ls,s.length≤65536
 cnt:ls.length≤1048576
theorem NvAt.upd{B:Nat}{w w':World}{lb:Nat}{lv:Value}{ls:List (List UInt8)}{S:Nat→Prop}(h:NvAt B w lb lv ls)(u:Upd S w w')(h1:¬S lb)(h2:∀g,lv.ownBlock=some g→¬S g):NvAt B w' lb lv ls:=
 ⟨u.blk h.blk h1,rows_upd h.row u h2,h.lo,h.sz,h.cnt⟩
theorem NvAt.ext{B:Nat}{w w':World}{lb:Nat}{lv:Value}{ls:List (List UInt8)}(h:NvAt B w lb lv ls)(u:Ext w w'):NvAt B w' lb lv ls:=h.upd u id (fun _ _=> id)
theorem own_lowN{w:World}{B B':Nat}{e:TypeId}{size n:Nat}{v:Value}{xs:List Value}(h:w.ownsRow B e size v n xs)(hB:B'≤B):w.ownsRow B' e size v n xs:=by
 refine ⟨h.1,?_⟩;rcases h.2 with h0 | ⟨g,cap,cur,hv,hb,rest⟩
 ·exact .inl h0
 ·exact .inr ⟨g,cap,cur,hv,Nat.le_trans hB hb,rest⟩
theorem NvAt.low{B B':Nat}{w:World}{lb:Nat}{lv:Value}{ls:List (List UInt8)}(h:NvAt B w lb lv ls)(hB:B'≤B):NvAt B' w lb lv ls:=⟨h.blk,own_lowN h.row hB,Nat.le_trans hB h.lo,h.sz,h.cnt⟩
theorem info_strN:(Tryz.prog.info? 9).map (fun i=> (i.zero,i.size,i.bytes))=some (some (.string ⟨#[]⟩),1,16):=by kernel_rfl
theorem nnew_any(w:World):Calls Tryz.prog 46 #[] w fun e w'=> e= .returned (.pointer (some ⟨w.heap.size,0,none⟩))∧NvAt w.heap.size w' w.heap.size (.slice none 0 0) []∧Ext w w':=by have HQ:=ZA (blk_alloc w (.cells #[.slice none 0 0,.bool true] 197));go_enter Tryz.func46,Tryz.ntmps46;go_wp2_with fail;go_ret;exact ⟨rfl,⟨HQ.o,World.ownsRow_nil _ _ _ _,Nat.le_refl _,(fun s hs=> by cases hs),Nat.zero_le _⟩,(Upd.refl none' w).alloc _⟩
theorem nsize_any{B:Nat}{w:World}{lb:Nat}{lv:Value}{ls:List (List UInt8)}(H:NvAt B w lb lv ls):Calls Tryz.prog 53 #[.pointer (some ⟨lb,0,none⟩)] w fun e w'=> e= .returned (.int .u64 ls.length)∧w=w':=by
 obtain ⟨A,c,rfl⟩:=own_sl H.row;have c0:w.cell? ⟨lb,0,none⟩=some (.slice A ls.length c):=cell_of_blk H.blk 0;have hw:IntKind.u64.wrap (ls.length:Int)=ls.length:=by rw[IntKind.wrap_u64];have:=H.cnt;omega
 clear H;go_enter Tryz.func53,Tryz.ntmps53;go_wp2_with fail;go_ret;exact ⟨rfl,rfl⟩
theorem nleaf_any{B:Nat}{w:World}{lb:Nat}{lv:Value}{ls:List (List UInt8)}(H:NvAt B w lb lv ls)(i:Nat)(hi:i < ls.length):Calls Tryz.prog 75 #[.pointer (some ⟨lb,0,none⟩),.int .u64 i] w fun e w'=> e= .returned (.tuple #[.string (str ls[i]),.nilIface])∧w=w':=by
 have CS:=nsize_any H;rcases own_form H.row with ⟨_,h0⟩ | ⟨g,c,rfl,_⟩
 ·omega
 have c0:w.cell? ⟨lb,0,none⟩=some (.slice (some ⟨g,0,none⟩) ls.length c):=cell_of_blk H.blk 0;have c1:w.cell? ⟨lb,1,none⟩=some (.bool true):=cell_of_blk H.blk 1;have c2:w.cell? ⟨g,i,none⟩=some (.string (str ls[i])):=by have h9:=H.row.cells (g:=g) rfl i (encStr ls[i]) (by rw[List.getElem?_map,List.getElem?_eq_getElem hi];rfl);rwa [Addr.add_lit,Nat.zero_add] at h9
 have hb:=H.cnt;generalize ls[i]=s at*;obtain ⟨n,hn⟩:∃n,n=ls.length:=⟨_,rfl⟩;rw[←hn] at c0 CS hi hb;have hlt:¬(n:Int)≤i:=by omega
 have hin:(i:Int) < n:=by omega
 clear H hn;go_enter Tryz.func75,Tryz.ntmps75;go_wp2_with fail;refine CS.mono ?_;rintro e w1 ⟨rfl,rfl⟩;go_wp2_with fail;go_ret2;exact ⟨rfl,rfl⟩
theorem nappend_any{B:Nat}{w:World}{lb:Nat}{lv:Value}{ls:List (List UInt8)}(H:NvAt B w lb lv ls)(s:List UInt8)(hs:s.length≤65536)(hc:ls.length < 1048576):
 Calls Tryz.prog 48 #[.pointer (some ⟨lb,0,none⟩),.string (str s)] w fun e w'=> e= .returned (.tuple #[.int .u64 ls.length,.nilIface])∧(∃lv',NvAt B w' lb lv' (ls++ [s]))∧Upd (fun g=> g=lb∨lv.ownBlock=some g) w w':=by
 obtain ⟨i0,hi0,hz0,hz1,hz2⟩:=info_parts info_strN;obtain ⟨A,c,rfl⟩:=own_sl H.row;have c0:w.cell? ⟨lb,0,none⟩=some (.slice A ls.length c):=cell_of_blk H.blk 0;have c1:w.cell? ⟨lb,1,none⟩=some (.bool true):=cell_of_blk H.blk 1;have HH:=ZA H;have HS:=ZA hs;have hsz:¬(65536:Int) < (s.length:Int):=by omega
 have HX:=ZA ((Upd.refl none' w).alloc (.cells #[.string (str s)] 9));have HO:=ZA (ownsRow_upd H.row HX.o (fun _ _=> id));have HCN:Hid (CellsAt (w.alloc (.cells #[.string (str s)] 9)) (some ⟨w.heap.size,0,none⟩) [.string (str s)]):=ZA (fun j u hu=> ⟨_,rfl,by rw[Addr.add_lit];exact blk_cells (blk_alloc w (.cells #[.string (str s)] 9)) j u hu⟩)
 have HO1:Hid (∀u∈([.string (str s)]:List Value),u.oneCell'=true):=ZA (by intro u hu;rw[List.mem_singleton.1 hu];rfl);obtain ⟨n,hn⟩:∃n,n=ls.length:=⟨_,rfl⟩;have HN:=ZA hn;rw[←hn] at c0 hc HO⊢;have HLM:Hid (n+1≤maxLen∧(n+1)*16≤140737488355328):=ZA (by unfold maxLen;omega);have HBW:Hid (B≤(w.alloc (.cells #[.string (str s)] 9)).heap.size):=ZA (Nat.le_trans (Nat.le_trans H.lo (Nat.le_of_lt (lt_of_blk H.blk))) HX.o.size);have hnl:¬(1048576:Int)≤n:=by omega
 have hnw:IntKind.u64.wrap (n:Int)=n:=by rw[IntKind.wrap_u64];omega
 clear H hs hn;go_enter Tryz.func48,Tryz.ntmps48;go_wp2_with (first
  | (refine wpList_run rfl (exec_build1 34 9 _ rfl (.string (str s)) rfl Tryz.underlying34 i0 _ hi0 hz0 hz1 rfl) ?_)
  | (at_builtin;(refine wpList_appX rfl _ _ 34 rfl B 9 i0 _ 1 16 Tryz.underlying34 hi0 hz0 hz1 hz2 rfl (by decide) (.slice A n c) n _ rfl HO.o (some ⟨w.heap.size,0,none⟩) 1 1 [.string (str s)] rfl rfl HCN.o HO1.o HLM.o.1 HLM.o.2 HBW.o ?_)))
 intro A7 c7 w7 hown7 hgrow7 _;have u7:Upd (fun g=> (Value.slice A n c).ownBlock=some g) (w.alloc (.cells #[.string (str s)] 9)) w7:=(Upd.refl _ _).grown hgrow7 (fun g hg=> .inr hg);have hb7:w7.heap[lb]? =some (.cells #[.slice A ls.length c,.bool true] 197 (0,0)):=u7.blk (Ext.blk HX.o HH.o.blk) (fun hg=> by obtain ⟨c9,hc9⟩:=row_type HO.o hg;have h3:=Ext.blk HX.o HH.o.blk;rw[h3] at hc9;simp at hc9)
 have HB7:=ZA hb7;have HO7:=ZA hown7;have HU7:=ZA u7;have b0:w7.cell? ⟨lb,0,none⟩=some (.slice A ls.length c):=cell_of_blk hb7 0;have b1:w7.cell? ⟨lb,1,none⟩=some (.bool true):=cell_of_blk hb7 1;have bf:=free_of_blk hb7 0;have hni:IntKind.i64.wrap (((n:Int)+1) - 1)=n:=(IntWalk.i64_in _ (by omega)).trans (by omega);have hn1:((n:Int)+1) - 1=n:=by omega
 clear hown7 hgrow7 u7 hb7;go_wp2_with fail;go_ret2;refine ⟨by first | rfl | simp,⟨.slice A7 (n+1) c7,?_,?_,HH.o.lo,?_,?_⟩,?_⟩
 ·have h9:=blk_set HB7.o 0 (.slice A7 (n+1) c7);simpa using h9
 ·have u9:=(Upd.refl (one lb) w7).setCell (p:=⟨lb,0,none⟩) (.inr rfl) (.slice A7 (n+1) c7);have h9:=rows_upd HO7.o u9 (fun g hg e=> by obtain ⟨c9,hc9⟩:=row_type HO7.o hg;rw[show g=lb from e,HB7.o] at hc9;simp at hc9)
  rw[List.length_append,List.map_append,List.length_singleton,←HN.o];exact h9
 ·intro t ht;rcases List.mem_append.1 ht with h | h
  ·exact HH.o.sz t h
  ·rw[List.mem_singleton.1 h];exact HS.o
 ·rw[List.length_append,List.length_singleton,←HN.o];omega
 ·have u8:Upd (fun g=> g=lb∨(Value.slice A n c).ownBlock=some g) w w7:=Upd.trans (HX.o.mono (fun _ _ h=> h.elim)) (HU7.o.mono (fun g _ h=> .inr h));exact u8.setCell (p:=⟨lb,0,none⟩) (.inr (.inl rfl)) _
theorem bitLen_succ(m:Nat)(h:0 < m)(h6:m < 18446744073709551616:=by omega):∃t,Lib.bitLen m=t+1∧2 ^ t≤m∧m < 2 ^ (t+1):=by
 obtain ⟨h1,h2,h3⟩:=Lib.bitLenAux_bounds 64 m h6 (by omega);refine ⟨Lib.bitLenAux 64 m - 1,?_,h2,?_⟩
 ·show Lib.bitLenAux 64 m=_;omega
 ·rw[show Lib.bitLenAux 64 m - 1+1=Lib.bitLenAux 64 m by omega];exact h3
theorem split_one(w:World):Calls Tryz.prog 224 #[.int .u64 1] w fun e w'=> e= .returned (.tuple #[.int .u64 0,.bool false])∧w=w':=by go_enter Tryz.func224,Tryz.ntmps224;go_wp2_with fail;go_ret2;exact ⟨rfl,rfl⟩
theorem split_two(w:World)(n t:Nat)(h1:2≤n)(h2:n≤1048576)(h3:2 ^ t < n)(h4:n≤2 ^ (t+1)):Calls Tryz.prog 224 #[.int .u64 n] w fun e w'=> e= .returned (.tuple #[.int .u64 (2 ^ t:Nat),.bool true])∧w=w':=by
 obtain ⟨t',q1,q2,q3⟩:=bitLen_succ (n - 1) (by omega);have htt:t'=t:=by
  have a1:2 ^ t' < 2 ^ (t+1):=by omega
  have a2:2 ^ t < 2 ^ (t'+1):=by omega
  have b1:=(Nat.pow_lt_pow_iff_right (by decide:1 < 2)).1 a1;have b2:=(Nat.pow_lt_pow_iff_right (by decide:1 < 2)).1 a2;omega
 subst htt;obtain ⟨m,rfl⟩:∃m,n=m+1:=⟨n - 1,by omega⟩;have hm:IntKind.u64.wrap (((m+1:Nat):Int) - 1)=m:=by rw[IntKind.wrap_u64];omega
 have CL:=Tryz.bits_Len64 (m:Int) w (by omega) (by omega);rw[show ((m:Int)).toNat=m from rfl,show Lib.bitLen m=t'+1 from q1] at CL;have ht64:t' < 64:=by
  rcases Nat.lt_or_ge t' 64 with h | h
  ·exact h
  ·have:=Nat.pow_le_pow_right (n:=2) (by decide) h;have h9:(2:Nat) ^ 64=18446744073709551616:=rfl;omega
 have hn2:¬((m+1:Nat):Int) < 2:=by omega
 have hn3:¬(9223372036854775808:Int) < ((m+1:Nat):Int):=by omega
 have hti:IntKind.i64.wrap (((t'+1:Nat):Int) - 1)=t':=(IntWalk.i64_in _ (by omega)).trans (by omega);obtain ⟨K,hK⟩:∃K,K=2 ^ t':=⟨_,rfl⟩;have HK:=ZA hK;have HK64:Hid (K < 18446744073709551616):=ZA (by omega);have HT:=ZA ht64;obtain ⟨M,hM⟩:∃M,M=m+1:=⟨_,rfl⟩;obtain ⟨T1,hT1⟩:∃T1,T1=t'+1:=⟨_,rfl⟩;rw[←hM] at hm hn2 hn3⊢;rw[←hT1] at CL hti;rw[←hK];have hMb:M≤1048576:=by omega
 have hTb:T1≤64:=by omega
 clear q1 q2 q3 h1 h2 h3 h4 hK hM hT1;go_enter Tryz.func224,Tryz.ntmps224;go_wp2_with fail;refine CL.mono ?_;rintro e w1 ⟨rfl,rfl⟩;clear CL;go_wp2_with (refine wpList_run rfl (run_bop _ rfl (.int .u64 (1:Nat)) (.int .i64 (t':Nat)) (.int .u64 K) (by first | rfl | (show _=_;rw[hti];rfl)) rfl (run_shlU .i64 1 t' K (by have:=HT.o;omega) (by rw[HK.o];omega) HK64.o _)) ?_);go_ret2;exact ⟨rfl,rfl⟩
def segH(ls:List (List UInt8))(b e:Nat):List HB:=((leafHs ls).drop b).take (e - b)
theorem segH_len(ls:List (List UInt8)){b e:Nat}(h:e≤ls.length):(segH ls b e).length=e - b:=by unfold segH leafHs;rw[List.length_take,List.length_drop,List.length_map];omega
theorem segH_32(ls:List (List UInt8))(b e:Nat):H32 (segH ls b e):=((leafHs_32 ls).drop b).take _
theorem segH_take(ls:List (List UInt8)){b e k:Nat}(h:b+k≤e):(segH ls b e).take k=segH ls b (b+k):=by unfold segH;rw[List.take_take,show min k (e - b)=b+k - b by omega]
theorem segH_drop(ls:List (List UInt8)){b e k:Nat}:(segH ls b e).drop k=segH ls (b+k) e:=by unfold segH;rw[List.drop_take,List.drop_drop,show e - b - k=e - (b+k) by omega]
theorem segH_one(ls:List (List UInt8)){b:Nat}(h:b < ls.length):segH ls b (b+1)= [leafH ls[b]]:=by unfold segH leafHs;rw[show b+1 - b=1 by omega,List.drop_eq_getElem_cons (by rw[List.length_map];exact h),List.take_succ_cons,List.take_zero,List.getElem_map]
theorem mthP_len:∀(l:List HB),H32 l→(mthP l).length=32:=fun l h=> foldP_len (pkD_32 l.length l h)
structure NcAt (B:Nat) (w:World) (q1 q2 lb:Nat) (lv:Value) (ls:List (List UInt8)):Prop where
 nv:NvAt B w lb lv ls
 box:w.heap[q1]? =some (.cells #[.pointer (some ⟨lb,0,none⟩)] 46 (0,0))
 fn:w.heap[q2]? =some (.cells #[.func (.func 223) #[] #[.pointer (some ⟨q1,0,none⟩),.pointer (some ⟨q2,0,none⟩)]] 342 (0,0))
 sg:21 < w.heap.size
 sh:ShaTab w
theorem NcAt.ext{B:Nat}{w w':World}{q1 q2 lb:Nat}{lv:Value}{ls:List (List UInt8)}(h:NcAt B w q1 q2 lb lv ls)(u:Ext w w'):NcAt B w' q1 q2 lb lv ls:=⟨h.nv.ext u,Ext.blk u h.box,Ext.blk u h.fn,Nat.lt_of_lt_of_le h.sg u.size,h.sh.ext u⟩
section
variable {P:Program} {L:List Oper} {K:List Nat} {J:Nat→World→Prop} {R:Nat→World→World→Prop} {F:List (Value⊕(Value→World→Prop))} {a0:Act} {i:Nat} {o:Oper}
theorem g_callV(f:FuncId)(fv:Operand)(caps:List Value)(args:List Operand)(ts:Array TypeId)(vals:List Value)(hg:Gd3 L F a0 o)(ho:o.op= .call {callee:= .value fv,args:=args.toArray,argTypes:=ts})(hb:hasBody P f=true)(hf:Kn3 L F a0 o fv (.func (.func f) #[] caps.toArray))(hx:KnL L F a0 o args vals)
 (C:∀p w,loG L K i≤p→p≤hiG L K i→J p w→Calls P f (vals++caps).toArray w fun e w'=> ∃v,e= .returned v∧R p w w'∧Slots3 F i v w'∧J (nextG K i p) w'):OpG P L K J R (Slots3 F) a0 i o:=by
 intro p a w h1 h2 hJ hH hN;have hv:args.map a.eval=vals:=KnL.eval hH hN hx;have hfv:=hf a w hH hN;rw[if_pos (hg a w hH hN)];have hr:(execOp a.eval o).run P w= .ok (.enter f (vals++caps).toArray) w:=by
  have e1:(args.toArray.map a.eval)++caps.toArray=(vals++caps).toArray:=by rw[←hv];simp
  simp only[execOp,ho,resolve,Deferred.ofValue,hfv];simp[invoke,hv];exact run_callFunc_body w f _ hb
 rw[hr];exact C p w h1 h2 hJ
end
theorem body_tree1:hasBody Tryz.prog 223=true:=by kernel_rfl
theorem body_node2:hasBody Tryz.prog 55=true:=by kernel_rfl
theorem tree1_any{B q1 q2 lb:Nat}{lv:Value}{ls:List (List UInt8)}:∀(d:Nat) (b e:Nat) (w:World),e - b=d→b < e→e≤ls.length→NcAt B w q1 q2 lb lv ls→
 Calls Tryz.prog 223 #[.int .u64 b,.int .u64 e,.pointer (some ⟨q1,0,none⟩),.pointer (some ⟨q2,0,none⟩)] w fun en w'=> en= .returned (hashV (mthP (segH ls b e)))∧Ext w w':=by
 intro d;induction d using Nat.strongRecOn with
 | ind d ih=>
  intro b e w hd hbe hel H;have X0:=(Upd.refl none' w).alloc (.cells zero32 33);have HX0:=ZA X0;have HQ0:=ZA (blk_alloc w (.cells zero32 33));have HN:=ZA H;have HB:=ZA (And.intro hbe hel);have HML:=ZA (mthP_len _ (segH_32 ls b e));have hcnt:=H.nv.cnt;by_cases h1:e=b+1
  ·subst h1;have HS1:Hid (mthP (segH ls b (b+1))=leafH (ls[b]'(by omega))):=ZA (by rw[segH_one ls (by omega),mth_one]);have CS:=split_one (w.alloc (.cells zero32 33));rcases own_form H.nv.row with ⟨_,h0⟩ | ⟨g,c,rfl,_⟩
   ·omega
   have H1:=H.ext X0;have c0:(w.alloc (.cells zero32 33)).cell? ⟨q1,0,none⟩=some (.pointer (some ⟨lb,0,none⟩)):=cell_of_blk H1.box 0;have c1:(w.alloc (.cells zero32 33)).cell? ⟨lb,0,none⟩=some (.slice (some ⟨g,0,none⟩) ls.length c):=cell_of_blk H1.nv.blk 0;have c2:(w.alloc (.cells zero32 33)).cell? ⟨g,b,none⟩=some (.string (str (ls[b]'(by omega)))):=by have h9:=H1.nv.row.cells (g:=g) rfl b (encStr (ls[b]'(by omega))) (by rw[List.getElem?_map,List.getElem?_eq_getElem (by omega)];rfl);rwa [Addr.add_lit,Nat.zero_add] at h9
   have hs:=H.nv.sz (ls[b]'(by omega)) (List.getElem_mem _);have CL:=leaf_h (w.alloc (.cells zero32 33)) (str (ls[b]'(by omega))) (by rw[str_size];omega) H1.sg H1.sh;have hwd:IntKind.u64.wrap (((b+1:Nat):Int) - b)=1:=by rw[IntKind.wrap_u64];omega
   obtain ⟨M,hM⟩:∃M,M=mthP (segH ls b (b+1)):=⟨_,rfl⟩;have HM:=ZA hM;rw[←hM] at HML HS1;have HSL:=ZA (hash_size32 M HML.o);generalize ls[b]'(by omega)=s at*;obtain ⟨b1,hb1⟩:∃b1,b1=b+1:=⟨_,rfl⟩;obtain ⟨n,hn⟩:∃n,n=ls.length:=⟨_,rfl⟩;have HB1:=ZA hb1;rw[←hb1] at hwd⊢;rw[←hn] at c1;have hbn:(b:Int) < n:=by omega
   have hb1b:b1≤1048576:=by omega
   clear ih H H1 hd hbe hel hs hb1 hn hM;go_enter Tryz.func223,Tryz.ntmps223;go_wp2_with fail;refine CS.mono ?_;rintro en w1 ⟨rfl,rfl⟩;clear CS;go_wp2_with fail;refine CL.mono ?_;rintro en w1 ⟨rfl,hx⟩;have HQ1:=ZA (Ext.blk hx HQ0.o);have HX1:=ZA (HX0.o.trans hx);clear CL hx;rw[←HS1.o];go_wp2_with (refine wpList_storeAgg rfl 33 _ _ rfl w.heap.size 0 rfl (M.map u8v) rfl HSL.o zero32.toList 33 HQ1.o (by rw[List.length_map,HML.o];exact Nat.le_refl _) (u8_ones M) ?_);rw[show over zero32.toList 0 (M.map u8v)=M.map u8v from over_all _ _ (by rw[List.length_map,HML.o];rfl)];have hsz:(Tryz.prog.info? 33).map (·.size)=some (M.map u8v).toArray.size:=HSL.o;exact bodyPost_ret (v:=hashV M) (results_cell_row rfl _ _ w.heap.size 33 _ (0,0) _ rfl (blk_setRow HQ1.o (M.map u8v).toArray) Tryz.underlying33 rfl hsz) rfl ⟨by rw[HM.o,HB1.o],HX1.o.setRow (.inl (Nat.le_refl _)) _⟩
  ·obtain ⟨t,q3,q4,q5⟩:=bitLen_succ (d - 1) (by omega);have ht1:2 ^ t < d:=by omega
   have ht2:d≤2 ^ (t+1):=by omega
   have CS:=split_two (w.alloc (.cells zero32 33)) d t (by omega) (by omega) ht1 ht2;have HSP:Hid (mthP (segH ls b e)=nodeH (mthP (segH ls b (b+2 ^ t))) (mthP (segH ls (b+2 ^ t) e))):=ZA (by have h9:=mth_split t (segH ls b e) (by rw[segH_len ls hel];omega) (by rw[segH_len ls hel];omega);rwa [segH_take ls (by omega),segH_drop] at h9)
   obtain ⟨k,hk⟩:∃k,k=2 ^ t:=⟨_,rfl⟩;rw[←hk] at ht1 CS HSP;have H1:=H.ext X0;have hkp:0 < k:=by rw[hk];exact Nat.pos_of_ne_zero (by simp)
   have HC1:Hid (∀w7,Ext (w.alloc (.cells zero32 33)) w7→Calls Tryz.prog 223 #[.int .u64 b,.int .u64 (b+k:Nat),.pointer (some ⟨q1,0,none⟩),.pointer (some ⟨q2,0,none⟩)] w7 fun en w'=> en= .returned (hashV (mthP (segH ls b (b+k))))∧Ext w7 w'):=ZA (fun w7 h7=> ih k (by omega) b (b+k) w7 (by omega) (by omega) (by omega) ((HN.o.ext HX0.o).ext h7));have HC2:Hid (∀w7,Ext (w.alloc (.cells zero32 33)) w7→Calls Tryz.prog 223 #[.int .u64 (b+k:Nat),.int .u64 e,.pointer (some ⟨q1,0,none⟩),.pointer (some ⟨q2,0,none⟩)] w7 fun en w'=> en= .returned (hashV (mthP (segH ls (b+k) e)))∧Ext w7 w'):=ZA (fun w7 h7=> ih (d - k) (by omega) (b+k) e w7 (by omega) (by omega) hel ((HN.o.ext HX0.o).ext h7));have HL1:=ZA (mthP_len _ (segH_32 ls b (b+k)));have HL2:=ZA (mthP_len _ (segH_32 ls (b+k) e));have HC3:Hid (∀w7,Ext (w.alloc (.cells zero32 33)) w7→Calls Tryz.prog 55 #[hashV (mthP (segH ls b (b+k))),hashV (mthP (segH ls (b+k) e))] w7 fun en w'=> en= .returned (hashV (nodeH (mthP (segH ls b (b+k))) (mthP (segH ls (b+k) e))))∧Ext w7 w'):=ZA (fun w7 h7=> node_h w7 _ _ HL1.o HL2.o ((HN.o.ext HX0.o).ext h7).sg ((HN.o.ext HX0.o).ext h7).sh);have HF2:Hid ((w.alloc (.cells zero32 33)).cell? ⟨q2,0,none⟩=some (.func (.func 223) #[] #[.pointer (some ⟨q1,0,none⟩),.pointer (some ⟨q2,0,none⟩)])):=ZA (cell_of_blk H1.fn 0);have hwd:IntKind.u64.wrap ((e:Int) - b)=d:=by rw[IntKind.wrap_u64];omega
   have HWK:Hid (IntKind.u64.wrap ((b:Int)+k)=((b+k:Nat):Int)):=ZA (by rw[IntKind.wrap_u64];omega);generalize mthP (segH ls b (b+k))=A1 at*;generalize mthP (segH ls (b+k) e)=A2 at*;obtain ⟨M,hM⟩:∃M,M=mthP (segH ls b e):=⟨_,rfl⟩;have HM:=ZA hM;rw[←hM] at HML HSP;rw[←HSP.o] at HC3;have HSL:=ZA (hash_size32 M HML.o);have hdb:d≤1048576:=by omega
   have hb0:b≤1048576:=by omega
   have he0:e≤1048576:=by omega
   clear ih H H1 hd hbe hel hM h1 q3 q4 q5 ht1 ht2 hk hkp X0;generalize hW:w.alloc (.cells zero32 33)=W at*;go_enter Tryz.func223,Tryz.ntmps223;go_wp2_with fail;clear hW;refine CS.mono ?_;rintro en w1 ⟨rfl,rfl⟩;clear CS;go_upto_region 4 with fail;refine region_gen 13 [] (fun _ w'=> Ext W w') (fun _=> Ext) [.inl (.func (.func 223) #[] #[.pointer (some ⟨q1,0,none⟩),.pointer (some ⟨q2,0,none⟩)]),.inl (.int .u64 b),.inl (.int .u64 b),.inl (.int .u64 k),.inl (.int .u64 (IntKind.u64.wrap ((b:Int)+k))),.inl (hashV A1),.inl (.func (.func 223) #[] #[.pointer (some ⟨q1,0,none⟩),.pointer (some ⟨q2,0,none⟩)]),.inl (.int .u64 b),.inl (.int .u64 k),.inl (.int .u64 (IntKind.u64.wrap ((b:Int)+k))),.inl (.int .u64 e),.inl (hashV A2),.inl (hashV M)] (by kernel_rfl) (fun _ _=> Upd.refl _ _) trivial (by kernel_rfl) (by kernel_rfl) (by rfl) (by rfl) (by rfl) (by rfl) ((Upd.refl none' W).drew) ?_ ?_;rotate_left
   ·intro v' w' hJ hv;have hs0:=slot_val3 (hv 0 _ 26 rfl rfl) rfl;have hs1:=slot_val3 (hv 1 _ 27 rfl rfl) rfl;have hs2:=slot_val3 (hv 2 _ 28 rfl rfl) rfl;have hs3:=slot_val3 (hv 3 _ 29 rfl rfl) rfl;have hs4:=slot_val3 (hv 4 _ 30 rfl rfl) rfl;have hs5:=slot_val3 (hv 5 _ 31 rfl rfl) rfl;have hs6:=slot_val3 (hv 6 _ 32 rfl rfl) rfl;have hs7:=slot_val3 (hv 7 _ 33 rfl rfl) rfl;have hs8:=slot_val3 (hv 8 _ 34 rfl rfl) rfl;have hs9:=slot_val3 (hv 9 _ 35 rfl rfl) rfl;have hs10:=slot_val3 (hv 10 _ 36 rfl rfl) rfl;have hs11:=slot_val3 (hv 11 _ 37 rfl rfl) rfl;have hs12:=slot_val3 (hv 12 _ 38 rfl rfl) rfl;refine gn_norm (by simp only[List.take,putAll];rewrite[hs0,hs1,hs2,hs3,hs4,hs5,hs6,hs7,hs8,hs9,hs10,hs11,hs12];go_simp;all_goals exact rfl) ?_;clear hv hs0 hs1 hs2 hs3 hs4 hs5 hs6 hs7 hs8 hs9 hs10 hs11 hs12;have HX4:=ZA (show Ext W w' from hJ);have HQ4:=ZA (Ext.blk hJ HQ0.o);have HXF:=ZA (HX0.o.trans hJ);clear hJ;refine any1 13 (by kernel_rfl) ?_;refine op_storeAgg rfl (by rfl) 33 _ _ rfl w.heap.size rfl (M.map u8v) rfl HSL.o zero32.toList 33 HQ4.o (by rw[List.length_map,HML.o];rfl) (u8_ones M) ?_;refine gn_norm (by go_simp;all_goals exact rfl) ?_;refine wpAny_done (by kernel_rfl) ?_ _;go_wp2_with fail;have hsz:(Tryz.prog.info? 33).map (·.size)=some (M.map u8v).toArray.size:=HSL.o;exact bodyPost_ret (v:=hashV M) (results_cell_row rfl _ _ w.heap.size 33 _ (0,0) _ rfl (blk_setRow HQ4.o (M.map u8v).toArray) Tryz.underlying33 rfl hsz) rfl ⟨by rw[HM.o],HXF.o.setRow (.inl (Nat.le_refl _)) _⟩
   refine ⟨g_load1 _ _ (fun _ _=> Upd.refl _ _) rfl (gd_none3 rfl) rfl rfl (kn_old3 3 rfl rfl) Tryz.underlying342 rfl (fun p w7 _ _ hj=> Ext.cellv hj HF2.o),?_⟩;refine ⟨g_move (fun _ _=> Upd.refl _ _) rfl (gd_none3 rfl) rfl rfl (kn_old3 0 rfl rfl),?_⟩;refine ⟨g_move (fun _ _=> Upd.refl _ _) rfl (gd_none3 rfl) rfl rfl (kn_old3 0 rfl rfl),?_⟩;refine ⟨g_move (fun _ _=> Upd.refl _ _) rfl (gd_none3 rfl) rfl rfl (kn_old3 7 rfl rfl),?_⟩;refine ⟨g_bin (x:=(.tmp 28)) (y:=(.tmp 29)) (fun _ _=> Upd.refl _ _) rfl (gd_none3 rfl) rfl (kn_new3 2 rfl rfl rfl rfl) (kn_new3 3 rfl rfl rfl rfl) (fun ev w h1 h2=> by simp only[execOp,h1,h2];go_simp),?_⟩;refine ⟨g_callV 223 (.tmp 26) [.pointer (some ⟨q1,0,none⟩),.pointer (some ⟨q2,0,none⟩)] [.tmp 27,.tmp 30] _ [.int .u64 b,(.int .u64 (IntKind.u64.wrap ((b:Int)+k)))] (gd_none3 rfl) rfl body_tree1 (kn_new3 0 rfl rfl rfl rfl) ⟨(kn_new3 1 rfl rfl rfl rfl),(kn_new3 4 rfl rfl rfl rfl),trivial⟩ (fun p w7 _ _ hj=> by
  rw[HWK.o];refine (HC1.o w7 hj).mono ?_;rintro e9 w8 ⟨rfl,hu9⟩;exact ⟨_,rfl,hu9,rfl,Upd.trans hj hu9⟩),?_⟩
   refine ⟨g_load1 _ _ (fun _ _=> Upd.refl _ _) rfl (gd_none3 rfl) rfl rfl (kn_old3 3 rfl rfl) Tryz.underlying342 rfl (fun p w7 _ _ hj=> Ext.cellv hj HF2.o),?_⟩;refine ⟨g_move (fun _ _=> Upd.refl _ _) rfl (gd_none3 rfl) rfl rfl (kn_old3 0 rfl rfl),?_⟩;refine ⟨g_move (fun _ _=> Upd.refl _ _) rfl (gd_none3 rfl) rfl rfl (kn_old3 7 rfl rfl),?_⟩;refine ⟨g_bin (x:=(.tmp 33)) (y:=(.tmp 34)) (fun _ _=> Upd.refl _ _) rfl (gd_none3 rfl) rfl (kn_new3 7 rfl rfl rfl rfl) (kn_new3 8 rfl rfl rfl rfl) (fun ev w h1 h2=> by simp only[execOp,h1,h2];go_simp),?_⟩;refine ⟨g_move (fun _ _=> Upd.refl _ _) rfl (gd_none3 rfl) rfl rfl (kn_old3 1 rfl rfl),?_⟩;refine ⟨g_callV 223 (.tmp 32) [.pointer (some ⟨q1,0,none⟩),.pointer (some ⟨q2,0,none⟩)] [.tmp 35,.tmp 36] _ [(.int .u64 (IntKind.u64.wrap ((b:Int)+k))),.int .u64 e] (gd_none3 rfl) rfl body_tree1 (kn_new3 6 rfl rfl rfl rfl) ⟨(kn_new3 9 rfl rfl rfl rfl),(kn_new3 10 rfl rfl rfl rfl),trivial⟩ (fun p w7 _ _ hj=> by
  rw[HWK.o];refine (HC2.o w7 hj).mono ?_;rintro e9 w8 ⟨rfl,hu9⟩;exact ⟨_,rfl,hu9,rfl,Upd.trans hj hu9⟩),?_⟩
   refine ⟨g_call 55 [.tmp 31,.tmp 37] _ [(hashV A1),(hashV A2)] (gd_none3 rfl) rfl body_node2 ⟨(kn_new3 5 rfl rfl rfl rfl),(kn_new3 11 rfl rfl rfl rfl),trivial⟩ (fun p w7 _ _ hj=> by
  refine (HC3.o w7 hj).mono ?_;rintro e9 w8 ⟨rfl,hu9⟩;exact ⟨_,rfl,hu9,rfl,Upd.trans hj hu9⟩),?_⟩
   exact trivial
theorem segH_nil(ls:List (List UInt8))(b:Nat):mthP (segH ls b b)=emptyH:=by unfold segH;rw[Nat.sub_self,List.take_zero,mth_nil]
theorem ntree_any{B lb:Nat}{w:World}{lv:Value}{ls:List (List UInt8)}(H:NvAt B w lb lv ls)(b e:Nat)(hbe:b≤e)(hel:e≤ls.length)(hG:21 < w.heap.size)(htab:ShaTab w):
 Calls Tryz.prog 150 #[.pointer (some ⟨lb,0,none⟩),.agg #[.int .u64 b,.int .u64 e]] w fun en w'=> en= .returned (.tuple #[hashV (mthP (segH ls b e)),.nilIface])∧Ext w w':=by
 obtain ⟨A,c,rfl⟩:=own_sl H.row;have hcnt:=H.cnt;have HH:=ZA H;have HTB:=ZA (And.intro hG htab);have HBE:=ZA (And.intro hbe hel);have X1:=(((Upd.refl none' w).alloc (.cells #[.pointer (some ⟨lb,0,none⟩)] 46)).alloc (.cells #[.int .u64 b,.int .u64 e] 200)).alloc (.cells zero32 33);have HX:=ZA X1;have hq1:=blk_alloc w (.cells #[.pointer (some ⟨lb,0,none⟩)] 46);have hq2:=blk_alloc (w.alloc (.cells #[.pointer (some ⟨lb,0,none⟩)] 46)) (.cells #[.int .u64 b,.int .u64 e] 200);have hq3:=blk_alloc ((w.alloc (.cells #[.pointer (some ⟨lb,0,none⟩)] 46)).alloc (.cells #[.int .u64 b,.int .u64 e] 200)) (.cells zero32 33);rw[World.size_alloc] at hq2;rw[World.size_alloc,World.size_alloc] at hq3;have HQ1:=ZA (blk_alloc_lt (blk_alloc_lt hq1 (.cells #[.int .u64 b,.int .u64 e] 200)) (.cells zero32 33));have HQ2:=ZA (blk_alloc_lt hq2 (.cells zero32 33));have HQ3:=ZA hq3;have q1:=cell_of_blk HQ1.o 0;have q2:=cell_of_blk HQ2.o 0;have q3:=cell_of_blk HQ2.o 1;have n0:=cell_of_blk (H.ext X1).blk 0;have n1:=cell_of_blk (H.ext X1).blk 1;have hgt:decide ((e:Int) < b)=false:=decide_eq_false (by omega);have hgs:decide ((ls.length:Int) < e)=false:=decide_eq_false (by omega);have hgt2:decide (e < b)=false:=decide_eq_false (by omega);have hgs2:decide (ls.length < e)=false:=decide_eq_false (by omega);obtain ⟨n,hn⟩:∃n,n=ls.length:=⟨_,rfl⟩;have HNN:=ZA hn;rw[←hn] at hgs hgs2 n0;have hbb:b≤1048576:=by omega
 have heb:e≤1048576:=by omega
 clear H hG htab X1 hq1 hq2 hq3 hbe hel hcnt hn;simp only[List.getElem?_toArray,List.getElem?_cons_zero,List.getElem?_cons_succ] at q1 q2 q3 n0 n1;go_enter Tryz.func150,Tryz.ntmps150;go_wp2_with fail;generalize hW:((w.alloc (.cells #[.pointer (some ⟨lb,0,none⟩)] 46)).alloc (.cells #[.int .u64 b,.int .u64 e] 200)).alloc (.cells zero32 33)=W at*;have CS:Hid (∀w7,Ext W w7→Calls Tryz.prog 53 #[.pointer (some ⟨lb,0,none⟩)] w7 fun en w'=> en= .returned (.int .u64 n)∧w7=w'):=ZA (fun w7 h7=> by rw[HNN.o];exact nsize_any (HH.o.ext (HX.o.trans h7)));clear hW;go_quiet ((go_at_call 53;exact (CS.o _ ((Upd.refl none' W).drewN _)).mono (by rintro e9 w9 ⟨rfl,rfl⟩;exact ⟨rfl,_,rfl⟩)));have HXD:Hid (Ext w (W.drewN nq)):=ZA (HX.o.drewN nq);have HD:Hid (Ext W (W.drewN nq)):=ZA ((Upd.refl none' W).drewN nq);have r1:(W.drewN nq).cell? ⟨w.heap.size+1,0,none⟩=some (.int .u64 b):=Ext.cellv HD.o q2;have r2:(W.drewN nq).cell? ⟨w.heap.size+1,1,none⟩=some (.int .u64 e):=Ext.cellv HD.o q3;have HZ:Hid (W.heap.size=(W.drewN nq).heap.size):=ZA (by simp[World.drewN]);generalize W.drewN nq=V at*;have HV3:=ZA (Ext.blk HD.o HQ3.o);have HV1:=ZA (Ext.blk HD.o HQ1.o);have HTV:Hid (21 < V.heap.size∧ShaTab V):=ZA ⟨Nat.lt_of_lt_of_le HTB.o.1 HXD.o.size,HTB.o.2.ext HXD.o⟩;have HML:=ZA (mthP_len _ (segH_32 ls b e));by_cases hbe:b=e
 ·subst hbe;have CE:=empty_h V HTV.o.1 HTV.o.2;rw[←segH_nil ls b] at CE;obtain ⟨M,hM⟩:∃M,M=mthP (segH ls b b):=⟨_,rfl⟩;have HM:=ZA hM;rw[←hM] at CE HML;have HSL:=ZA (hash_size32 M HML.o);clear hM;go_wp2_with fail;refine CE.mono ?_;rintro en w1 ⟨rfl,hx⟩;have HQ4:=ZA (Ext.blk hx HV3.o);have HXF:=ZA (HXD.o.trans hx);clear CE hx;go_wp2_with (refine wpList_storeAgg rfl 33 _ _ rfl (w.heap.size+1+1) 0 rfl (M.map u8v) rfl HSL.o zero32.toList 33 HQ4.o (by rw[List.length_map,HML.o];exact Nat.le_refl _) (u8_ones M) ?_);rw[show over zero32.toList 0 (M.map u8v)=M.map u8v from over_all _ _ (by rw[List.length_map,HML.o];rfl)];have hsz:(Tryz.prog.info? 33).map (·.size)=some (M.map u8v).toArray.size:=HSL.o;exact bodyPost_ret (v:= .tuple #[hashV M,.nilIface]) (results_cell_twoV rfl _ _ (w.heap.size+1+1) 33 _ (0,0) _ _ rfl rfl (blk_setRow HQ4.o (M.map u8v).toArray) Tryz.underlying33 rfl hsz) rfl ⟨by rw[HM.o],HXF.o.setRow (.inl (by omega)) _⟩
 ·have hmf:∀(fn:Fn) (first cap:Array Value) (w:World),(Instr.makeFunc fn first cap).run Tryz.prog w= .ok (.func fn first cap) w:=fun _ _ _ _=> rfl;have hbn:((b:Int)==e)=false:=by simp;omega
  have HA:=ZA ((Upd.refl none' V).alloc (.cells #[(.func (.func 223) #[] #[.pointer (some ⟨w.heap.size,0,none⟩),.pointer (some ⟨V.heap.size,0,none⟩)])] 342));have HFB:=ZA (blk_alloc V (.cells #[(.func (.func 223) #[] #[.pointer (some ⟨w.heap.size,0,none⟩),.pointer (some ⟨V.heap.size,0,none⟩)])] 342));have fc:=cell_of_blk (blk_alloc V (.cells #[.nilFunc] 342)) 0;simp only[List.getElem?_toArray,List.getElem?_cons_zero] at fc;have u1:(V.alloc (.cells #[(.func (.func 223) #[] #[.pointer (some ⟨w.heap.size,0,none⟩),.pointer (some ⟨V.heap.size,0,none⟩)])] 342)).cell? ⟨w.heap.size+1,0,none⟩=some (.int .u64 b):=Ext.cellv HA.o r1;have u2:(V.alloc (.cells #[(.func (.func 223) #[] #[.pointer (some ⟨w.heap.size,0,none⟩),.pointer (some ⟨V.heap.size,0,none⟩)])] 342)).cell? ⟨w.heap.size+1,1,none⟩=some (.int .u64 e):=Ext.cellv HA.o r2;have HXW:Hid (Ext w (V.alloc (.cells #[(.func (.func 223) #[] #[.pointer (some ⟨w.heap.size,0,none⟩),.pointer (some ⟨V.heap.size,0,none⟩)])] 342))):=ZA (HXD.o.trans HA.o);have CT:=tree1_any (B:=B) (q1:=w.heap.size) (q2:=V.heap.size) (lb:=lb) (lv:= .slice A ls.length c) (ls:=ls) (e - b) b e (V.alloc (.cells #[(.func (.func 223) #[] #[.pointer (some ⟨w.heap.size,0,none⟩),.pointer (some ⟨V.heap.size,0,none⟩)])] 342)) rfl (by have:=HBE.o.1;omega) HBE.o.2 ⟨HH.o.ext HXW.o,Ext.blk HA.o HV1.o,HFB.o,Nat.lt_of_lt_of_le HTV.o.1 HA.o.size,HTV.o.2.ext HA.o⟩;obtain ⟨M,hM⟩:∃M,M=mthP (segH ls b e):=⟨_,rfl⟩;have HM:=ZA hM;rw[←hM] at CT HML;have HSL:=ZA (hash_size32 M HML.o);have HV9:=ZA (Ext.blk HA.o HV3.o);clear hM;go_wp2_with (first
   | (go_at_call 223;refine CT.mono ?_;rintro en w9 ⟨rfl,hx⟩;have HQ9:=ZA (Ext.blk hx HV9.o);have HX9:=ZA (HXW.o.trans hx))
   | (refine wpList_storeAgg rfl 33 _ _ rfl (w.heap.size+1+1) 0 rfl (M.map u8v) rfl HSL.o zero32.toList 33 HQ9.o (by rw[List.length_map,HML.o];exact Nat.le_refl _) (u8_ones M) ?_))
  rw[show over zero32.toList 0 (M.map u8v)=M.map u8v from over_all _ _ (by rw[List.length_map,HML.o];rfl)];have hsz:(Tryz.prog.info? 33).map (·.size)=some (M.map u8v).toArray.size:=HSL.o;exact bodyPost_ret (v:= .tuple #[hashV M,.nilIface]) (results_cell_twoV rfl _ _ (w.heap.size+1+1) 33 _ (0,0) _ _ rfl rfl (blk_setRow HQ9.o (M.map u8v).toArray) Tryz.underlying33 rfl hsz) rfl ⟨by rw[HM.o],HX9.o.setRow (.inl (by omega)) _⟩
theorem nroot_any{B lb:Nat}{w:World}{lv:Value}{ls:List (List UInt8)}(H:NvAt B w lb lv ls)(n:Nat)(hn:n≤ls.length)(hG:21 < w.heap.size)(htab:ShaTab w):
 Calls Tryz.prog 49 #[.pointer (some ⟨lb,0,none⟩),.int .u64 n] w fun en w'=> en= .returned (.tuple #[hashV (mthP (segH ls 0 n)),.nilIface])∧Ext w w':=by
 have X0:=(Upd.refl none' w).alloc (.cells zero32 33);have HX0:=ZA X0;have HQ0:=ZA (blk_alloc w (.cells zero32 33));have C:=ntree_any (H.ext X0) 0 n (Nat.zero_le _) hn (Nat.lt_of_lt_of_le hG X0.size) (htab.ext X0);have HML:=ZA (mthP_len _ (segH_32 ls 0 n));obtain ⟨M,hM⟩:∃M,M=mthP (segH ls 0 n):=⟨_,rfl⟩;have HM:=ZA hM;rw[←hM] at C HML;have HSL:=ZA (hash_size32 M HML.o);clear X0 H hn hG htab hM;go_enter Tryz.func49,Tryz.ntmps49;go_wp2_with fail;refine C.mono ?_;rintro en w1 ⟨rfl,hx⟩;have HQ4:=ZA (Ext.blk hx HQ0.o);have HXF:=ZA (HX0.o.trans hx);clear C hx;go_wp2_with (refine wpList_storeAgg rfl 33 _ _ rfl w.heap.size 0 rfl (M.map u8v) rfl HSL.o zero32.toList 33 HQ4.o (by rw[List.length_map,HML.o];exact Nat.le_refl _) (u8_ones M) ?_);rw[show over zero32.toList 0 (M.map u8v)=M.map u8v from over_all _ _ (by rw[List.length_map,HML.o];rfl)];have hsz:(Tryz.prog.info? 33).map (·.size)=some (M.map u8v).toArray.size:=HSL.o;exact bodyPost_ret (v:= .tuple #[hashV M,.nilIface]) (results_cell_twoV rfl _ _ w.heap.size 33 _ (0,0) _ _ rfl rfl (blk_setRow HQ4.o (M.map u8v).toArray) Tryz.underlying33 rfl hsz) rfl ⟨by rw[HM.o],HXF.o.setRow (.inl (Nat.le_refl _)) _⟩
theorem tl_size:(Tryz.prog.info? 115).map (·.size)=some 3:=by kernel_rfl
theorem run_tl0(w:World):(Instr.build 115 #[]).run Tryz.prog w= .ok (.agg #[.int .u8 0,.int .u64 0,.int .i64 0]) w:=by kernel_rfl
def tlV(k i m:Nat):Value:= .agg #[.int .u8 k,.int .u64 i,.int .i64 m]
theorem tin_any(w:World)(k i n:Nat)(hk:k≤7)(hi:i≤1048576)(hn:n≤1048576)(S:Nat)(hS:S=n / 2 ^ (8*k)):
 Calls Tryz.prog 41 #[.int .u8 k,.int .u64 i,.int .u64 n] w fun e w'=> e= .returned (.tuple #[if i*256 < S then tlV k i (min (S - i*256) 256) else tlV 0 0 0,.bool (decide (i*256 < S))])∧Ext w w':=by
 have HX0:=ZA ((Upd.refl none' w).alloc (.cells #[.int .u8 0,.int .u64 0,.int .i64 0] 115));have HQ0:=ZA (blk_alloc w (.cells #[.int .u8 0,.int .u64 0,.int .i64 0] 115));have hSb:S≤1048576:=by rw[hS];exact Nat.le_trans (Nat.div_le_self _ _) hn
 have HS:=ZA hS.symm;obtain ⟨E,hE⟩:∃E,E=8*k:=⟨_,rfl⟩;obtain ⟨I,hI⟩:∃I,I=i*256:=⟨_,rfl⟩;obtain ⟨Q,hQ⟩:∃Q,Q=S / 256:=⟨_,rfl⟩;have h8:IntKind.u8.wrap (8*(k:Int))=E:=by rw[IntKind.wrap_u8'];omega
 have h256:IntKind.u64.wrap ((i:Int)*256)=I:=by rw[IntKind.wrap_u64];omega
 have hk7:¬(7:Int) < k:=by omega
 have hn63:¬(9223372036854775808:Int) < n:=by omega
 have HE:=ZA (show E≤64 by omega);rw[←hE] at HS;have hdv:(S:Int) / 256=Q:=by omega
 rw[←hI];clear hS;by_cases hin:I < S
 ·obtain ⟨M,hM⟩:∃M,M=min (S - I) 256:=⟨_,rfl⟩;have hgt:¬(Q:Int) < i:=by omega
  have hge:¬(S:Int)≤I:=by omega
  have hsub:IntKind.u64.wrap ((S:Int) - I)=((S - I:Nat):Int):=by rw[IntKind.wrap_u64];omega
  rw[if_pos hin,decide_eq_true hin,←hM];clear hE hI hQ hi hn hk;go_enter Tryz.func41,Tryz.ntmps41;go_wp2_with (refine wpList_run rfl (run_bop _ rfl (.int .u64 n) (.int .u8 E) (.int .u64 S) rfl rfl (run_shrU .u8 n E S HE.o HS.o _)) ?_);have hmn:(min (((S - I:Nat):Int)) 256)=((min (S - I) 256:Nat):Int):=by omega
  refine bodyPost_ret (v:= .tuple #[.agg #[.int .u8 k,.int .u64 i,.int .i64 (min (((S - I:Nat):Int)) 256)],.bool true]) (results_cell_twoV rfl _ _ w.heap.size 115 #[.int .u8 k,.int .u64 i,.int .i64 (min (((S - I:Nat):Int)) 256)] (0,0) _ _ rfl rfl (blk_alloc w _) Tryz.underlying115 rfl tl_size) rfl ⟨?_,(Upd.refl none' w).alloc _⟩;unfold tlV;rw[hmn]
 ·have hge:(S:Int)≤I:=by omega
  rw[if_neg hin,decide_eq_false hin];by_cases hgt:(Q:Int) < i
  ·clear hE hI hQ hi hn hk;go_enter Tryz.func41,Tryz.ntmps41;go_wp2_with (first
    | (refine wpList_run rfl (run_bop _ rfl (.int .u64 n) (.int .u8 E) (.int .u64 S) rfl rfl (run_shrU .u8 n E S HE.o HS.o _)) ?_)
    | (refine wpList_run rfl (exec_build _ [] rfl [] _ rfl (run_tl0 _)) ?_))
   exact bodyPost_ret (v:= .tuple #[.agg #[.int .u8 0,.int .u64 0,.int .i64 0],.bool false]) (results_cell_twoV rfl _ _ w.heap.size 115 #[.int .u8 0,.int .u64 0,.int .i64 0] (0,0) _ _ rfl rfl (blk_alloc w _) Tryz.underlying115 rfl tl_size) rfl ⟨rfl,(Upd.refl none' w).alloc _⟩
  ·clear hE hI hQ hi hn hk;go_enter Tryz.func41,Tryz.ntmps41;go_wp2_with (first
    | (refine wpList_run rfl (run_bop _ rfl (.int .u64 n) (.int .u8 E) (.int .u64 S) rfl rfl (run_shrU .u8 n E S HE.o HS.o _)) ?_)
    | (refine wpList_run rfl (exec_build _ [] rfl [] _ rfl (run_tl0 _)) ?_))
   exact bodyPost_ret (v:= .tuple #[.agg #[.int .u8 0,.int .u64 0,.int .i64 0],.bool false]) (results_cell_twoV rfl _ _ w.heap.size 115 #[.int .u8 0,.int .u64 0,.int .i64 0] (0,0) _ _ rfl rfl (blk_alloc w _) Tryz.underlying115 rfl tl_size) rfl ⟨rfl,(Upd.refl none' w).alloc _⟩
theorem conv_bytes2(l:List UInt8)(w:World):∃cap w',(convert 9 50 (.string (str l))).run Tryz.prog w= .ok (.slice (some ⟨w.heap.size,0,none⟩) l.length cap) w'∧l.length≤cap∧Ext w w'∧
 ∀j c,l[j]? =some c→w'.cell? ⟨w.heap.size,j,none⟩=some (u8v c):=by
 have e:=run_bytes_of_string (P:=Tryz.prog) w 9 50 5 (str l) Tryz.underlying9 Tryz.underlying50 Tryz.underlying5;rw[str_size] at e;refine ⟨_,_,e,grownCap_ge _ _ _ _,((Upd.refl _ _).drew).alloc _,fun j c hj=> ?_⟩;have hb:=blk_alloc w.drew (.cells (bytesRow (str l) (grownCap w l.length 0 5)) 5 ((bytesRow (str l) (grownCap w l.length 0 5)).size,(bytesRow (str l) (grownCap w l.length 0 5)).size+1));have hlt:j < l.length:=(List.getElem?_eq_some_iff.1 hj).1;rw[show w.heap.size=w.drew.heap.size from rfl,cell_of_blk hb];have hc:l[j]=c:=(List.getElem?_eq_some_iff.1 hj).2;simp[bytesRow,Array.getElem?_append,hlt,hc]
theorem run_sl32{P:Program}{o:Oper}{a:Act}(w:World){t e:TypeId}{x h3 m3:Operand}(ho:o.op= .slice t x none (some h3) (some m3))(g off n c:Nat)(hx:a.eval x= .slice (some ⟨g,off,none⟩) n c)(hh:a.eval h3= .int .i64 32)(hm:a.eval m3= .int .i64 32)(hc:32≤c)(hu:P.underlying t=some (.slice e))(hs:(P.info? e).map (·.size)=some 1):
 (execOp a.eval o).run P w= .ok (.value (.slice (some ⟨g,off,none⟩) 32 32)) w:=by
 cases hq:P.info? e with
 | none=> simp[hq] at hs
 | some i=>
  have his:i.size=1:=by simpa[hq] using hs
  have hc2:(32:Int)≤c:=by omega
  simp[execOp,ho,hx,hh,hm,Instr.sliceAt,Instr.slice,Instr.sliceBounds,Instr.sliceBound,run_underlying hu,asIntOf,sizeOf,typeInfo,hq,hc2,Addr.add_lit]
theorem flat_len32:∀{hs:List HB},H32 hs→hs.flatten.length=32*hs.length
 | [],_=> rfl
 | h::hs,H=> by rw[List.flatten_cons,List.length_append,flat_len32 (fun x hx=> H x (List.mem_cons_of_mem _ hx)),H h List.mem_cons_self,List.length_cons];omega
theorem flat_get:∀{hs:List HB} (i j:Nat) (h:HB),H32 hs→hs[i]? =some h→j < 32→hs.flatten[32*i+j]? =h[j]?
 | [],i,j,h,H,hi,hj=> by cases hi
 | x::hs,0,j,h,H,hi,hj=> by
  cases hi
  rw[List.flatten_cons,Nat.mul_zero,Nat.zero_add,List.getElem?_append_left (by rw[H x List.mem_cons_self];exact hj)]
 | x::hs,i+1,j,h,H,hi,hj=> by have hx:=H x List.mem_cons_self;rw[List.flatten_cons,List.getElem?_append_right (by omega),show 32*(i+1)+j - x.length=32*i+j by omega];exact flat_get i j h (fun y hy=> H y (List.mem_cons_of_mem _ hy)) (by simpa using hi) hj
def TdRel(W:World)(hs:List HB)(g L cap:Nat)(lv bv:Value)(wr:World):Prop:=
 ∃(i:Nat) (A:Option Addr),i≤hs.length∧bv= .slice A (L - 32*i) (cap - 32*i)∧(i < hs.length→A=some ⟨g,32*i,none⟩)∧wr.ownsRow W.heap.size 33 32 lv i (hcells (hs.take i))∧Ext W wr
theorem tdec_any(w:World)(hs:List HB)(h32:H32 hs)(h1:1≤hs.length)(h2:hs.length≤256):
 Calls Tryz.prog 43 #[.string (str hs.flatten),.int .i64 hs.length] w fun e w'=> ∃v,e= .returned (.tuple #[v,.nilIface])∧w'.ownsRow w.heap.size 33 32 v hs.length (hcells hs)∧Ext w w':=by
 obtain ⟨i0,hi0,hz0,hz1,hz2⟩:=info_parts info_hash;have hfl:=flat_len32 h32;obtain ⟨cap,W,hrun,hcap,hX,hcells⟩:=conv_bytes2 hs.flatten w;have HX:=ZA hX;have HCE:=ZA hcells;have HCAP:=ZA hcap;have H32S:=ZA h32;obtain ⟨L,hL⟩:∃L,L=hs.flatten.length:=⟨_,rfl⟩;have HL:=ZA (And.intro hL hfl);obtain ⟨n,hn⟩:∃n,n=hs.length:=⟨_,rfl⟩;have HN:=ZA (And.intro hn (And.intro h1 h2));rw[←hL] at hrun;rw[←hn] at h1 h2 hfl⊢;have hln:((32:Int)*(n:Int))=(L:Int):=by omega
 have hwl:IntKind.i64.wrap ((32:Int)*(n:Int))=(L:Int):=(IntWalk.i64_in _ (by omega)).trans hln;have hsz:(hs.flatten.length:Int)=(L:Int):=by rw[hL]
 have hn1:¬(n:Int) < 1:=by omega
 have hn2:¬(256:Int) < n:=by omega
 have hszn:hs.flatten.length=L:=hL.symm;clear hX hcells hcap h32 hL hn hfl hln;go_enter Tryz.func43,Tryz.ntmps43;go_wp2_with fail;clear hrun;go_loopw [6,7] (fun lv bv wr=> TdRel W hs w.heap.size L cap lv bv wr) (fun _ bv _=> match bv with | .slice _ m _=> m | _=> 0);case atStart=> exact ⟨0,some ⟨w.heap.size,0,none⟩,Nat.zero_le _,by simp,fun _=> by simp,World.ownsRow_nil _ _ _ _,Upd.refl _ _⟩
 case round=>
  obtain ⟨i,A,hi,rfl,hA,hown,hu⟩:=hrel;have HU:=ZA hu;have HO:=ZA hown;have HI:=ZA hi;obtain ⟨lA,lc,rfl⟩:=own_sl hown;have hLn:L=32*n:=by rw[HL.o.1,HL.o.2,HN.o.1]
  obtain ⟨bl,hbl⟩:∃bl,bl=L - 32*i:=⟨_,rfl⟩;obtain ⟨bc,hbc⟩:∃bc,bc=cap - 32*i:=⟨_,rfl⟩;rw[←hbl,←hbc];by_cases hlt:i < n
  ·obtain rfl:=hA (by rw[←HN.o.1];exact hlt);have hcp:L≤cap:=by rw[HL.o.1];exact HCAP.o
   have hbl0:(0:Int) < bl:=by omega
   obtain ⟨x,hx⟩:∃x,hs[i]? =some x:=⟨_,List.getElem?_eq_getElem (by rw[←HN.o.1];exact hlt)⟩;have hx32:=H32S.o x (List.mem_of_getElem? hx);have HBC:=ZA (show 32≤bc∧32≤bl∧bl≤bc by omega);have HBE:=ZA (And.intro hbl (And.intro hbc (And.intro hcp (And.intro hLn hlt))));have HC:Hid (∀j v,(x.map u8v)[j]? =some v→wr.cell? ⟨w.heap.size,32*i+j,none⟩=some v):=ZA (fun j v hv=> by
    rw[List.getElem?_map] at hv;cases hxj:x[j]? with
    | none=> rw[hxj] at hv;cases hv
    | some b=>
     rw[hxj] at hv;cases hv
     have hj:j < 32:=by have:=(List.getElem?_eq_some_iff.1 hxj).1;omega
     exact Ext.cellv HU.o (HCE.o (32*i+j) b (by rw[flat_get i j x H32S.o hx hj,hxj])))
   have HSX:=ZA (hash_size32 x hx32);have HX32:=ZA hx32;have HTK:Hid (hs.take (i+1)=hs.take i++ [x]):=ZA (by rw[List.take_add_one,hx];rfl);have HXL:Hid ((x.map u8v).length=1*32):=ZA (by rw[List.length_map,hx32]);have HXP:Hid (0 < (x.map u8v).length∧(x.map u8v).length≤16777216):=ZA (by rw[List.length_map,hx32];decide);have HU3:=ZA ((Upd.refl none' wr).alloc (.cells (x.map u8v).toArray 33));have HO3:=ZA (ownsRow_upd HO.o HU3.o (fun _ _=> id));have HCN:Hid (CellsAt (wr.alloc (.cells (x.map u8v).toArray 33)) (some ⟨wr.heap.size,0,none⟩) (x.map u8v)):=ZA (fun j u hu=> ⟨_,rfl,by rw[Addr.add_lit];exact blk_cells (blk_alloc wr (.cells (x.map u8v).toArray 33)) j u hu⟩)
   have HO1:=ZA (u8_ones x);have HLM:Hid (i+1≤maxLen∧(i+1)*32≤140737488355328):=ZA (by unfold maxLen;have:=HN.o.2.2;omega);have HBW:Hid (W.heap.size≤(wr.alloc (.cells (x.map u8v).toArray 33)).heap.size):=ZA (Nat.le_trans HU.o.size HU3.o.size);have hat:∀w7:World,(Instr.arrayAt 33 (.slice (some ⟨w.heap.size,32*i,none⟩) 32 32)).run Tryz.prog w7= .ok (.pointer (some ⟨w.heap.size,32*i,none⟩)) w7:=fun w7=> run_arrayAt w7 33 _ 32 _ 32 32 Tryz.underlying33 (Nat.le_refl _);clear hx hx32 hlt hi hown hu hbl hbc hcp hLn hA;go_wp2_with (first
    | (refine wpList_run rfl (run_sl32 _ rfl w.heap.size (32*i) bl bc rfl rfl rfl HBC.o.1 Tryz.underlying50 u8_size) ?_)
    | (refine wpList_loadAgg rfl 33 _ rfl w.heap.size (32*i) rfl (x.map u8v) Tryz.underlying33 rfl HSX.o HC.o ?_)
    | (refine wpList_buildOne rfl 113 33 _ rfl (x.map u8v) rfl Tryz.underlying113 HSX.o hash_zero HXP.o.1 HXP.o.2 ?_)
    | (at_builtin;(refine wpList_appX rfl _ _ 113 rfl W.heap.size 33 i0 _ 32 32 Tryz.underlying113 hi0 hz0 hz1 hz2 rfl (by decide) (.slice lA i lc) i _ rfl HO3.o (some ⟨wr.heap.size,0,none⟩) 1 1 (x.map u8v) rfl HXL.o HCN.o HO1.o HLM.o.1 HLM.o.2 HBW.o ?_)))
   intro A7 c7 w7 hown7 hgrow7 _;have HU7:Hid (Ext W w7):=ZA ((HU.o.trans HU3.o).grown hgrow7 (fun g hg=> .inl (HO3.o.lt g hg).1));have HO7:Hid (w7.ownsRow W.heap.size 33 32 (.slice A7 (i+1) c7) (i+1) (hcells (hs.take (i+1)))):=ZA (by rw[HTK.o,hcells_app,hcells_one];exact hown7);clear hown7 hgrow7;go_wp2_with (refine wpList_run rfl (run_slLo _ rfl (some ⟨w.heap.size,32*i,none⟩) bl bc 32 1 5 rfl rfl HBC.o.2.1 Tryz.underlying50 u8_size) ?_);have hN:=HN.o.1;obtain ⟨q1,q2,q3,q4,q5⟩:=HBE.o;have q6:=HBC.o;refine ⟨⟨i+1,if bc=32 then some ⟨w.heap.size,32*i,none⟩ else some ⟨w.heap.size,32*i+32,none⟩,by omega,?_,fun hi9=> ?_,HO7.o,HU7.o⟩,by show bl - 32 < bl;omega⟩
   ·rw[show L - 32*(i+1)=bl - 32 by omega,show cap - 32*(i+1)=bc - 32 by omega]
   ·rw[if_neg (by omega),show 32*(i+1)=32*i+32 by omega]
  ·have hbl0:bl=0:=by omega
   have hin:i=n:=by have:=HN.o.1;omega
   have HF:Hid (wr.ownsRow w.heap.size 33 32 (.slice lA i lc) n (hcells hs)):=ZA (by have h9:=own_lowN HO.o HX.o.size;rw[hin,HN.o.1,List.take_length] at h9;rw[hin,HN.o.1];exact h9)
   rw[hbl0];clear hlt hi hown hu hbl hbc hLn hA hin hbl0;go_wp2_with fail;go_ret2;exact ⟨_,rfl,HF.o,HX.o.trans HU.o⟩
def rowTl(n k:Nat):List (Nat×Nat×Nat):=(List.range ((n / 2 ^ (8*k)+255) / 256)).map fun i=> (k,i,min (n / 2 ^ (8*k) - i*256) 256)
def allT(n:Nat):Nat→List (Nat×Nat×Nat)
 | 0=> []
 | k+1=> allT n k++rowTl n k
theorem rowTl_len(n k:Nat):(rowTl n k).length=(n / 2 ^ (8*k)+255) / 256:=by simp[rowTl]
theorem rowTl_le{n k:Nat}(hn:n≤1048576):(rowTl n k).length≤4096:=by rw[rowTl_len];have:=Nat.div_le_self n (2 ^ (8*k));omega
theorem allT_le{n:Nat}(hn:n≤1048576):∀k,(allT n k).length≤4096*k
 | 0=> Nat.le_refl _
 | k+1=> by rw[allT,List.length_append];have:=allT_le hn k;have:=rowTl_le (k:=k) hn;omega
theorem pfold_any(w:World)(g off:Nat)(l:List HB)(cap:Nat)(h32:H32 l)(hc:CellsAt w (some ⟨g,off,none⟩) (hcells l))(h0:0 < l.length)(hl:l.length≤64)(hG:21 < w.heap.size)(htab:ShaTab w):
 Calls Tryz.prog 148 #[.slice (some ⟨g,off,none⟩) l.length cap] w fun e w'=> e= .returned (.tuple #[hashV (foldP l),.nilIface])∧Ext w w':=by
 obtain ⟨c,hcl⟩:∃c,l.length=c+1:=⟨l.length - 1,by omega⟩;have X0:=(Upd.refl none' w).alloc (.cells zero32 33);have HX0:=ZA X0;have HT:=ZA htab;have HG:=ZA hG;have HQ0:=ZA (blk_alloc w (.cells zero32 33));have HQ1:Hid (((w.alloc (.cells zero32 33)).alloc (.cells zero32 33)).heap[w.heap.size+1]? =some (.cells zero32 33 (0,0))):=ZA (by have:=blk_alloc (w.alloc (.cells zero32 33)) (.cells zero32 33);rwa [World.size_alloc] at this)
 have HH:=ZA h32;have hx0:=h32.getD c (by omega);have HXL:=ZA hx0;have HC0:=ZA (hash_at (hc.ext X0) h32 c (by omega));have HC:=ZA hc;have HF:=ZA (show foldP l=cr nodeH (l.take c) c (l.getD c []) by unfold foldP;rw[if_neg (by intro e;rw[e] at hcl;simp at hcl),hcl];rfl)
 have HCL:=ZA hcl;have HS0:=ZA (hash_size32 _ hx0);have HZ0:=ZA (show zero32.size=((l.getD c []).map u8v).length by rw[List.length_map,hx0];rfl);rw[hcl];have hn0:((((c+1:Nat):Int))==0)=false:=by simp;omega
 have hc64:c≤63:=by omega
 have hlt:(c:Int) < ((c+1:Nat):Int):=by omega
 have hw1:(((c+1:Nat):Int)) - 1=c:=by omega
 generalize hlast:l.getD c []=x at*;clear hcl hl h0 h32 hc X0 hx0 hlast htab hG;go_enter Tryz.func148,Tryz.ntmps148;go_wp2_with (first
  | refine wpList_loadAgg rfl 33 _ rfl g (off+c*32) rfl (x.map u8v) Tryz.underlying33 rfl HS0.o HC0.o ?_
  | refine wpList_storeAgg rfl 33 _ _ rfl (w.heap.size+1) 0 rfl (x.map u8v) rfl HS0.o zero32.toList 33 HQ1.o (by rw[List.length_map,HXL.o];exact Nat.le_refl _) (u8_ones x) ?_)
 have HOV:Hid (over zero32.toList 0 (x.map u8v)=x.map u8v):=ZA (over_all _ _ HZ0.o);rw[show over _ 0 (x.map u8v)=x.map u8v from HOV.o];have HQ2:=ZA (blk_setRow HQ1.o (x.map u8v).toArray);have HX2:Hid (Ext w (((w.alloc (.cells zero32 33)).alloc (.cells zero32 33)).setRow (w.heap.size+1) (x.map u8v).toArray)):=ZA ((HX0.o.alloc (.cells zero32 33)).setRow (.inl (by omega)) _);have HR2:Hid ((((w.alloc (.cells zero32 33)).alloc (.cells zero32 33)).setRow (w.heap.size+1) (x.map u8v).toArray).heap[w.heap.size]? =some (.cells zero32 33 (0,0))):=ZA (blk_setRow_ne (blk_alloc_lt HQ0.o _) (by omega) _);generalize ((w.alloc (.cells zero32 33)).alloc (.cells zero32 33)).setRow (w.heap.size+1) (x.map u8v).toArray=W at*;generalize hhb:w.heap.size+1=hb at*;have HHB:=ZA hhb;clear hhb hn0 hlt;have hw2:((c+1:Nat):Int) - 2=(c:Int) - 1:=by omega
 go_loopw [5] (fun iv wr=> ∃t:Nat,t≤c∧iv= .int .i64 ((c:Int) - 1 - t)∧wr.heap[hb]? =some (.cells ((cr nodeH (l.take c) t x).map u8v).toArray 33 (0,0))∧Upd (one hb) W wr) (fun iv _=> (RowKit.intOf iv+1).toNat);case atStart=> exact ⟨0,by omega,by simp <;> omega,by rw[cr_zero];exact HQ2.o,Upd.refl _ _⟩
 case round=>
  obtain ⟨t,ht,rfl,hq,hu⟩:=hrel;have HQ:=ZA hq;have HU:=ZA hu;have HTC:=ZA ht;have HLT:=ZA (show (l.take c).length=c by rw[List.length_take];have:=HCL.o;omega);have HY:=ZA (cr_len32 (HH.o.take c) HXL.o t (by rw[HLT.o];exact ht));have HXW:Hid (Ext w wr):=ZA (HX2.o.then hu (fun k hk e=> by have h1:=HHB.o;have h2:k=hb:=e;omega));clear hq hu;by_cases hlt:t < c
  ·obtain ⟨i,hi⟩:∃i,i=c - 1 - t:=⟨_,rfl⟩;have hii:(c:Int) - 1 - t=i:=by omega
   rw[hii];have hi0:(0:Int)≤i:=by omega
   have hic:(i:Int) < ((c+1:Nat):Int):=by omega
   have hi64:i≤63:=by omega
   have HI:=ZA (⟨hi,hlt⟩:i=c - 1 - t∧t < c);have HYI:=ZA (HH.o.getD i (by have:=HCL.o;omega));have HSTEP:=ZA (show cr nodeH (l.take c) (t+1) x=nodeH (l.getD i []) (cr nodeH (l.take c) t x) by rw[cr_succ nodeH _ _ _ (by rw[HLT.o];exact hlt),HLT.o,←hi];congr 1;rw[List.getD_eq_getElem?_getD,List.getD_eq_getElem?_getD,List.getElem?_take,if_pos (by omega)])
   have HCI:=ZA (fun (w7:World) (h7:Ext wr w7)=> hash_at (HC.o.ext (HXW.o.trans h7)) HH.o i (by have:=HCL.o;omega));have HCH:=ZA (fun (w7:World) (h7:Ext wr w7)=> blk_cells (Ext.blk h7 HQ.o));have HSI:=ZA (hash_size32 _ HYI.o);have HSY:=ZA (hash_size32 _ HY.o);generalize l.getD i []=a at*;generalize cr nodeH (l.take c) t x=y at*;clear hi hlt ht hii;go_wp2_with fail;refine region_inv_tail 6 (fun w'=> Ext wr w') (by kernel_rfl) (by kernel_rfl) (by kernel_rfl) (by kernel_rfl) (by kernel_rfl) (by kernel_rfl) ((Upd.refl none' _).drew) ?_;simp only[List.take_succ_cons,List.take_zero,List.drop_succ_cons,List.drop_zero];refine inv_move rfl rfl (.slice (some ⟨g,off,none⟩) (c+1) cap) rfl ?_;refine inv_norm (by go_simp;exact rfl) ?_;refine inv_move rfl rfl (.int .i64 i) rfl ?_;refine inv_norm (by go_simp;exact rfl) ?_;refine inv_indexSlice rfl rfl g off (c+1) cap i 32 33 rfl rfl (by have:=HI.o;omega) Tryz.underlying113 hash_size ?_;refine inv_norm (by go_simp;exact rfl) ?_;refine inv_loadAgg rfl 33 _ rfl g (off+i*32) rfl (a.map u8v) Tryz.underlying33 rfl HSI.o HCI.o ?_;refine inv_norm (by go_simp;exact rfl) ?_;refine inv_loadAgg rfl 33 _ rfl hb 0 rfl (y.map u8v) Tryz.underlying33 rfl HSY.o HCH.o ?_;refine inv_norm (by go_simp;exact rfl) ?_;refine inv_call (v:=hashV (nodeH a y)) rfl 55 [.tmp 27,.tmp 28] _ rfl body_node [hashV a,hashV y] rfl (fun w7 h7=> (node_h w7 a y HYI.o HY.o (Nat.lt_of_lt_of_le HG.o (Nat.le_trans HXW.o.size h7.size)) (HT.o.ext (HXW.o.trans h7))).mono (by rintro e w8 ⟨rfl,hx⟩;exact ⟨rfl,Upd.trans h7 hx⟩)) ?_;refine inv_norm (by go_simp;exact rfl) ?_;refine inv_nil ?_;intro w5 h5;have HQ5:=ZA (Ext.blk h5 HQ.o);have HU5:Hid (Upd (one hb) W w5):=ZA (HU.o.trans (Upd.ext h5 _));have HSN:=ZA (hash_size32 (nodeH a y) (nodeH_len a y));have HOVN:Hid (over (y.map u8v) 0 ((nodeH a y).map u8v)=(nodeH a y).map u8v):=ZA (over_all _ _ (by rw[List.length_map,List.length_map,HY.o,nodeH_len]));clear h5;go_wp2_with (refine wpList_storeAgg rfl 33 _ _ rfl hb 0 rfl ((nodeH a y).map u8v) rfl HSN.o (y.map u8v) 33 HQ5.o (by rw[List.length_map,List.length_map,HY.o,nodeH_len];exact Nat.le_refl _) (u8_ones _) ?_);rw[HOVN.o,←HSTEP.o];have hI:=HI.o;refine ⟨⟨t+1,by omega,?_,blk_setRow HQ5.o _,HU5.o.setRow (.inr rfl) _⟩,by simp[RowKit.intOf] <;> omega⟩;simp;omega
  ·have hii:(c:Int) - 1 - t= -1:=by omega
   rw[hii];have HE:=ZA (show t=c by omega);have HR5:=ZA (HU.o.blk HR2.o (fun e=> by have h1:=HHB.o;have h2:w.heap.size=hb:=e;omega));have HCY:=ZA (blk_cells HQ.o);have HFY:Hid (cr nodeH (l.take c) t x=foldP l):=ZA (by rw[HF.o,HE.o]);rw[HFY.o] at HCY HY;have HSY:=ZA (hash_size32 _ HY.o);have HOVY:Hid (over zero32.toList 0 ((foldP l).map u8v)=(foldP l).map u8v):=ZA (over_all _ _ (by rw[List.length_map,HY.o];rfl));generalize hRF:foldP l=R at*;have HRF:=ZA hRF;clear hlt ht hii hRF;go_wp2_with (first
    | refine wpList_loadAgg rfl 33 _ rfl hb 0 rfl (R.map u8v) Tryz.underlying33 rfl HSY.o HCY.o ?_
    | refine wpList_storeAgg rfl 33 _ _ rfl w.heap.size 0 rfl (R.map u8v) rfl HSY.o zero32.toList 33 HR5.o (by rw[List.length_map,HY.o];exact Nat.le_refl _) (u8_ones R) ?_)
   rw[show over _ 0 (R.map u8v)=R.map u8v from HOVY.o];have HQF:=ZA (blk_setRow HR5.o (R.map u8v).toArray);have hsz:(Tryz.prog.info? 33).map (·.size)=some (R.map u8v).toArray.size:=HSY.o;exact bodyPost_ret (v:= .tuple #[hashV R,.nilIface]) (results_cell_twoV rfl _ _ w.heap.size 33 _ (0,0) _ _ rfl rfl HQF.o Tryz.underlying33 rfl hsz) rfl ⟨by rw[HRF.o],HXW.o.setRow (.inl (Nat.le_refl _)) _⟩
theorem rsroot_any(w:World)(A:Option Addr)(es:List (List HB))(cap:Nat)(hA:EdAt w A es)(h32:E32 es)(hl:es.length≤8)(hG:21 < w.heap.size)(htab:ShaTab w):
 Calls Tryz.prog 44 #[.slice A es.length cap] w fun e w'=> e= .returned (.tuple #[hashV (rootE es),.nilIface])∧Ext w w':=by
 obtain ⟨i0,hi0,hz0,hz1,hz2⟩:=info_parts info_hash;have HA:=ZA hA;have H32':=ZA h32;have HT:=ZA htab;have HG:=ZA hG;have hli:(es.length:Int)≤8:=by omega
 clear hA h32 htab hG;go_enter Tryz.func44,Tryz.ntmps44;go_wp2_with fail;obtain ⟨W,hW⟩:∃W,W=w.alloc (.cells zero32 33):=⟨_,rfl⟩;obtain ⟨q,hq⟩:∃q,q=w.heap.size:=⟨_,rfl⟩;have HXW:Hid (Ext w W):=ZA (hW▸(Upd.refl none' w).alloc _);have HQ:Hid (W.heap[q]? =some (.cells zero32 33 (0,0))):=ZA (by rw[hW,hq];exact blk_alloc w _);have HQL:Hid (w.heap.size≤q∧q < W.heap.size):=ZA ⟨by omega,by rw[hW,World.size_alloc];omega⟩;rw[←hW,←hq];clear hW hq;have HA:=ZA (HA.o.ext HXW.o);have HT:=ZA (HT.o.ext HXW.o);have HG:=ZA (Nat.lt_of_lt_of_le HG.o HXW.o.size);go_loopw [4,5] (fun v kv wr=> PkRel W.heap.size es W v kv wr) (fun _ kv _=> (RowKit.intOf kv+1).toNat);case atStart=> exact ⟨es.length,_,Nat.le_refl _,rfl,rfl,by rw[List.drop_length];exact World.ownsRow_nil _ _ _ _,Upd.refl _ _⟩
 case round=>
  obtain ⟨k,i,hk,hi,rfl,ho,hx⟩:=hrel;have HO:=ZA ho;have HX:=ZA hx;have HI:=ZA hi;by_cases hlt:0 < k
  ·obtain ⟨m,rfl⟩:∃m,k=m+1:=⟨k - 1,by omega⟩;have him:i=(m:Int):=by omega
   subst him;have hml:m < es.length:=by omega
   have hmi:(m:Int) < es.length:=by omega
   obtain ⟨gA,oA,a,ec,rfl,hcell,hec,hE,hEa⟩:=HA.o m es[m] (List.getElem?_eq_getElem hml);have HP:=ZA (show peaksE nodeH (es.drop m)=peaksE nodeH (es.drop (m+1))++pkD nodeH 8 es[m] from by rw[List.drop_eq_getElem_cons hml];rfl);obtain ⟨he32,hel⟩:=H32'.o es[m] (List.getElem_mem hml);have HPL:=ZA (show (peaksE nodeH (es.drop (m+1))).length≤8192 from by have:=peaksE_len (es.drop (m+1));rw[List.length_drop] at this;omega);have HP32:=ZA (peaksE_32 (es.drop (m+1)) (fun x hx=> H32'.o x (List.mem_of_mem_drop hx)));generalize es[m]=e at*;generalize peaksE nodeH (es.drop (m+1))=P0 at*;have HE32:=ZA he32;have HEL:=ZA hel;have HCELL:=ZA hcell;have HEC:=ZA hec;have HE:=ZA hE;have HEA:=ZA hEa;clear ho hx hi he32 hel hcell hec hE hEa hk hlt;go_wp2_with fail;obtain ⟨w3,hw3⟩:∃w3:World,w3=wr:=⟨_,rfl⟩;subst hw3;go_loopw [4,6,7] (fun v av nv wr=> PjRel W.heap.size e P0 W v av nv wr) (fun _ _ nv _=> (RowKit.intOf nv).toNat);case atStart=> exact ⟨8,0,P0,by omega,rfl,rfl,Nat.zero_le _,rfl,by rw[Nat.sub_zero];exact HEL.o,by rw[List.drop_zero],by omega,HP32.o,HO.o,HX.o⟩
   case round=>
    obtain ⟨j,q,acc,hj,rfl,rfl,hq,hqm,hqr,hacc,hal,ha32,ho2,hx2⟩:=hrel;have HO2:=ZA ho2;have HX2:=ZA hx2;have HACC:=ZA hacc;have HA32:=ZA ha32;have HAL:=ZA hal;have HEX:=ZA (show Ext W wr from hx2.mono (fun g h1 h2=> by have h3:W.heap.size≤g:=h2;omega));obtain ⟨AV,cv,rfl⟩:=own_sl ho2;clear ho2 hx2 hacc ha32 hal;cases j with
    | zero=>
     have hn:¬(0:Int) < (bitOf 0:Nat):=by decide
     have hfin:acc=P0++pkD nodeH 8 e:=by have h:=HACC.o;have h0:pkD nodeH 0 (e.drop q)= []:=rfl;rw[h0,List.append_nil] at h;exact h
     have HFIN:=ZA hfin;clear hfin;go_wp2_with fail;exact ⟨⟨m,(m:Int) - 1,by omega,rfl,rfl,by rw[HP.o,←HFIN.o];exact HO2.o,HX2.o⟩,by simp[RowKit.intOf]⟩
    | succ j=>
     have hj7:j≤7:=by omega
     have hpl:=pow_le j hj7;have hh:=bitOf_half j;have hel:=HEL.o;have hand:=and_bit e.length j hel (by omega);have hbh:=bit_hi (L:=e.length) (q:=q) (c:=2 ^ j) (by omega) (by rw[←hqm,Nat.pow_succ,Nat.mul_comm]) hq (by rw[Nat.pow_succ] at hqr;omega);rw[hbh] at hand;have hcell:=Ext.cellv HEX.o HCELL.o;have hqm2:q % 2 ^ j=0:=by
      have h1:q % (2 ^ j*2)=0:=by rw[←Nat.pow_succ];exact hqm
      obtain ⟨t,ht⟩:=Nat.dvd_of_mod_eq_zero h1;rw[ht,Nat.mul_assoc];exact Nat.mul_mod_right _ _
     have hpk:pkD nodeH (j+1) (e.drop q)=if 2 ^ j≤(e.drop q).length then whole nodeH j ((e.drop q).take (2 ^ j))::pkD nodeH j ((e.drop q).drop (2 ^ j)) else pkD nodeH j (e.drop q):=rfl;have C:=fun (gb ob:Nat) (he:a=some ⟨gb,ob,none⟩) (hf:q+2 ^ j≤e.length)=> thash_any wr gb ob ec e HE32.o (by have:=HE.o.ext HEX.o;rw[he] at this;exact this) (by omega) HEC.o q j hj7 hqm2 hf (by have:=HG.o;have:=HEX.o.size;omega) (HT.o.ext HEX.o);rw[List.length_drop] at hpk;have hwt:whole nodeH j ((e.drop q).take (2 ^ j))=whole nodeH j (e.drop q):=whole_take nodeH j _ _ (Nat.le_refl _);rw[hwt,List.drop_drop] at hpk;have hwl:=fun (h:q+2 ^ j≤e.length)=> whole_len j (e.drop q) (HE32.o.drop q) (by rw[List.length_drop];omega);have hq2:q+2 ^ j≤e.length→(q+2 ^ j) % 2 ^ j=0:=fun _=> by rw[Nat.add_mod_right];exact hqm2
     have hr2:e.length - q < 2*2 ^ j:=by rw[Nat.pow_succ] at hqr;omega
     rw[bitOf_succ] at hh⊢;generalize whole nodeH j (e.drop q)=x at*;generalize hc:2 ^ j=c at*;have HACC2:=ZA HACC.o;rw[hpk] at HACC2;have HC:=ZA C;have HWL:=ZA hwl;have HQ2:=ZA hq2;have HQM2:=ZA hqm2;have HCC:=ZA hc;have hci:(0:Int) < c:=by omega
     have hdiv:(c:Int) / 2=(bitOf j:Nat):=by omega
     have hc1:(c:Int)≤128:=by omega
     clear C hwl hq2 hqm2 hc hpk hbh hqm hqr hwt;by_cases hhi:c≤e.length - q
     ·rw[if_pos hhi] at hand HACC2;simp only[if_true] at hand;have hf:q+c≤e.length:=by omega
      have hpos:0 < e.length:=by omega
      obtain ⟨gb,ob,rfl⟩:∃gb ob,a=some ⟨gb,ob,none⟩:=by
       rcases HEA.o with h | ⟨g2,o2,h⟩
       ·exfalso;have hl0:0 < (hcells e).length:=by rw[hcells_len HE32.o];omega
        obtain ⟨ad,h2,_⟩:=HE.o 0 _ (List.getElem?_eq_getElem hl0);rw[h] at h2;cases h2
       ·exact ⟨g2,o2,h⟩
      have C:=HC.o gb ob rfl hf;have hx32:=HWL.o hf;have hne:((c:Int)==0)=false:=by simp;omega
      have hcn:¬(c=0):=by omega
      have HF:=ZA hf;have HX32:=ZA hx32;have HSZ:=ZA (hash_size32 x hx32);have HO1:=ZA (u8_ones x);have HZ:=ZA (show zero32.size=(x.map u8v).length by rw[List.length_map,hx32];rfl);have hqi:(q:Int)+c≤256:=by omega
      have HHI:=ZA hhi;clear hhi hf hx32 hel hh hpl hpos;go_wp2_with fail;refine C.mono ?_;rintro e5 w5 ⟨rfl,hx5⟩;have HX5:=ZA hx5;have HC7:=ZA (blk_cells (blk_alloc w5 (.cells (x.map u8v).toArray 33)));have HL7:=ZA (lt_of_blk (blk_alloc w5 (.cells (x.map u8v).toArray 33)));have HZH:=ZA (show ((Tryz.prog.info? 33).bind (·.zero)).isSome=true from by kernel_rfl);have HP3:=ZA (show 0 < (x.map u8v).length∧(x.map u8v).length≤16777216 by rw[List.length_map,HX32.o];decide);have HX8:=ZA ((hx5.alloc (.cells (x.map u8v).toArray 33)).alloc (.cells (x.map u8v).toArray 33));have HO8:=ZA (ownsRow_upd HO2.o HX8.o (fun _ _=> id));have HLN:=ZA (show (x.map u8v).length=1*32 by rw[List.length_map,HX32.o]);have HM:=ZA (show acc.length+1≤maxLen∧(acc.length+1)*32≤140737488355328 by have:=HAL.o;have:=HPL.o;unfold maxLen;omega);have HBW:=ZA (show W.heap.size≤((w5.alloc (.cells (x.map u8v).toArray 33)).alloc (.cells (x.map u8v).toArray 33)).heap.size from Nat.le_trans HEX.o.size HX8.o.size);clear hx5 C;go_wp2_with (first
       | (refine store_new rfl 33 _ _ rfl _ _ rfl (x.map u8v) rfl HSZ.o HZ.o HO1.o ?_)
       | (refine wpList_loadAgg rfl 33 _ rfl w5.heap.size 0 rfl (x.map u8v) Tryz.underlying33 rfl HSZ.o HC7.o ?_)
       | (refine wpList_buildOne rfl 113 33 _ rfl (x.map u8v) rfl Tryz.underlying113 HSZ.o HZH.o HP3.o.1 HP3.o.2 ?_)
       | (at_builtin;(refine wpList_appX rfl _ _ 113 rfl W.heap.size 33 i0 _ 32 32 Tryz.underlying113 hi0 hz0 hz1 hz2 rfl (by decide) _ acc.length _ rfl HO8.o (some ⟨(w5.alloc (.cells (x.map u8v).toArray 33)).heap.size,0,none⟩) 1 1 (x.map u8v) (by rw[World.size_alloc];rfl) HLN.o (CellsAt.new _ _ _) HO1.o HM.o.1 HM.o.2 HBW.o ?_);intro A' c' w9 hown hgrow hat;have HOWN:=ZA hown;have HU9:=ZA ((HX2.o.thenExt HX8.o).grown hgrow (fun k hk=> .inr (HO8.o.lt k hk).1));clear hown hgrow hat))
      refine ⟨⟨j,q+c,acc++ [x],by omega,rfl,by simp,HF.o,by rw[HCC.o];exact HQ2.o HF.o,by rw[HCC.o];have:=HF.o;omega,by rw[List.append_assoc];exact HACC2.o,by have:=HAL.o;rw[List.length_append,List.length_singleton];omega,HA32.o.app (H32.cons HX32.o H32.nil),?_,HU9.o⟩,by simp[RowKit.intOf];omega⟩;rw[List.length_append,List.length_singleton,hcells_app,hcells_one];exact HOWN.o
     ·rw[if_neg hhi] at hand HACC2;simp only[Nat.zero_ne_one,if_false] at hand;have hlo:e.length - q < c:=by omega
      have HLO:=ZA hlo;clear hhi hlo hel hh hpl;go_wp2_with fail;refine ⟨⟨j,q,acc,by omega,rfl,rfl,hq,by rw[HCC.o];exact HQM2.o,by rw[HCC.o];exact HLO.o,HACC2.o,by have:=HAL.o;omega,HA32.o,HO2.o,HX2.o⟩,by simp[RowKit.intOf];omega⟩
  ·have hk0:k=0:=by omega
   subst hk0;have hki:¬(0:Int)≤i:=by omega
   have HO':=ZA HO.o;rw[List.drop_zero] at HO';clear ho hx hi;have HF:=ZA (show rootE es=foldP (peaksE nodeH es) from rfl);have HPL:=ZA (peaksE_len es);have HP32:=ZA (peaksE_32 es H32'.o);have HQR:=ZA (HX.o.blk HQ.o (fun h=> by have h3:W.heap.size≤q:=h;have:=HQL.o;omega));have HXR:Hid (Ext W wr):=ZA (HX.o.mono (fun g h1 h2=> by have h3:W.heap.size≤g:=h2;omega));generalize peaksE nodeH es=P at*;obtain ⟨R,hRE⟩:∃R,R=rootE es:=⟨_,rfl⟩;have HRE:=ZA hRE;rw[←hRE] at HF;clear hRE;obtain ⟨n,hn⟩:∃n,n=P.length:=⟨_,rfl⟩;have HN:=ZA hn;have HO2:=ZA HO'.o;rw[←hn] at HO2;by_cases h0:n=0
   ·have hP:P= []:=List.length_eq_zero_iff.1 (by omega);obtain ⟨A,c,rfl⟩:=own_sl HO2.o;have C:=empty_h wr (Nat.lt_of_lt_of_le HG.o HXR.o.size) (HT.o.ext HXR.o);have HR:Hid (R=emptyH):=ZA (by rw[HF.o,hP];rfl);have HSL:=ZA (hash_size32 emptyH emptyH_len);subst h0;clear hP hn;go_wp2_with fail;refine C.mono ?_;rintro e w1 ⟨rfl,hx1⟩;have HQ1:=ZA (Ext.blk hx1 HQR.o);have HX1:=ZA (HXW.o.trans (HXR.o.trans hx1));clear hx1 C;go_wp2_with (refine wpList_storeAgg rfl 33 _ _ rfl q 0 rfl (emptyH.map u8v) rfl HSL.o zero32.toList 33 HQ1.o (by rw[List.length_map,emptyH_len];exact Nat.le_refl _) (u8_ones emptyH) ?_);rw[show over zero32.toList 0 (emptyH.map u8v)=emptyH.map u8v from over_all _ _ (by rw[List.length_map,emptyH_len];rfl)];exact bodyPost_ret (v:= .tuple #[hashV emptyH,.nilIface]) (results_cell_twoV rfl _ _ q 33 _ (0,0) _ _ rfl rfl (blk_setRow HQ1.o _) Tryz.underlying33 rfl HSL.o) rfl ⟨by rw[←HRE.o,HR.o],HX1.o.setRow (.inl HQL.o.1) _⟩
   ·obtain ⟨A,c,rfl⟩:=own_sl HO2.o;obtain ⟨g,c9,hf, -⟩:∃g cr,Value.slice A n c= .slice (some ⟨g,0,none⟩) n cr∧W.heap.size≤g:=by
     rcases own_form HO2.o with ⟨_,h⟩ | h
     ·omega
     ·exact h
    cases hf
    have C:=pfold_any wr g 0 P c HP32.o (CellsAt.row32 HO2.o) (by omega) (by have:=HPL.o;omega) (Nat.lt_of_lt_of_le HG.o HXR.o.size) (HT.o.ext HXR.o);rw[←hn,←HF.o] at C;have HR32:Hid (R.length=32):=ZA (by rw[HF.o];exact foldP_len HP32.o);have HSL:=ZA (hash_size32 R HR32.o);have hne:((n:Int)==0)=false:=by simp;omega
    have hne2:¬(n:Int)=0:=by omega
    clear hn h0;go_wp2_with fail;refine C.mono ?_;rintro e w1 ⟨rfl,hx1⟩;have HQ1:=ZA (Ext.blk hx1 HQR.o);have HX1:=ZA (HXW.o.trans (HXR.o.trans hx1));clear hx1 C;go_wp2_with (refine wpList_storeAgg rfl 33 _ _ rfl q 0 rfl (R.map u8v) rfl HSL.o zero32.toList 33 HQ1.o (by rw[List.length_map,HR32.o];exact Nat.le_refl _) (u8_ones R) ?_);rw[show over zero32.toList 0 (R.map u8v)=R.map u8v from over_all _ _ (by rw[List.length_map,HR32.o];rfl)];exact bodyPost_ret (v:= .tuple #[hashV R,.nilIface]) (results_cell_twoV rfl _ _ q 33 _ (0,0) _ _ rfl rfl (blk_setRow HQ1.o _) Tryz.underlying33 rfl HSL.o) rfl ⟨by rw[←HRE.o],HX1.o.setRow (.inl HQL.o.1) _⟩
end Go.Proofs.YtjnjpgdoncbahaaGreatDoor
