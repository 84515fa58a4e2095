/- Rows of names with texts; reads that rise: plain (for the document's store). naive.New, Append, Size, Leaf by contracts. -/
import Derived.Test.YtnkcfkjeeennmaaGreatDoorStore
import Derived.Test.YtnkcfkjeeennmaaGreatDoorStNames
import Derived.Test.YtnkcfkjeeennmaaGreatDoorPathW
import Derived.Test.YtnkcfkjeeennmaaGreatDoorWrA
import Derived.Test.YtnkcfkjeeennmaaGreatDoorTxt
import Derived.Test.YtnkcfkjeeennmaaGreatDoorShaU
import Derived.Test.YtnkcfkjeeennmaaGreatDoorApp
namespace Go.Proofs.YtnkcfkjeeennmaaGreatDoor
open Go.RowKit Go.Lib Go.Sort
set_option maxRecDepth 20000
set_option maxHeartbeats 4000000
variable {B lb n size:Nat}{ls:List (List UInt8)}{lv v:Value}{w w':World}{xs:List Value}
theorem row_type{e:Nat}(h:w.ownsRow B e size v n xs){g:Nat}(hg:v.ownBlock=some g):∃c,w.heap[g]? =some (.cells c e (0,0)):=by
 rcases h.2 with ⟨rfl,_⟩ | ⟨g',cap,cur,rfl,_,hb,_⟩
 ·cases hg
 ·obtain rfl:g'=g:=by simpa[Value.ownBlock] using hg
  exact ⟨_,hb⟩
structure NvAt (B:Nat) (w:World) (lb:Nat) (lv:Value) (ls:List (List UInt8)):Prop where
 blk:w.heap[lb]? =some (.cells #[lv,.bool true] 157 (0,0))
 row:w.ownsRow B 9 1 lv ls.length (ls.map encStr)
 lo:B≤lb
 sz:∀s∈ls,s.length≤65536
 cnt:ls.length≤1048576
theorem NvAt.upd{S:Nat→Prop}(h:NvAt B w lb lv ls)(u:Upd S w w')(h1:¬S lb)(h2:∀g,lv.ownBlock=some g→¬S g):NvAt B w' lb lv ls:=
 ⟨u.blk h.blk h1,rows_upd h.row u h2,h.lo,h.sz,h.cnt⟩
theorem NvAt.ext(h:NvAt B w lb lv ls)(u:Ext w w'):NvAt B w' lb lv ls:=h.upd u id (fun _ _=> id)
theorem own_lowN{B':Nat}{e:TypeId}(h:w.ownsRow B e size v n xs)(hB:B'≤B):w.ownsRow B' e size v n xs:=by
 refine ⟨h.1,?_⟩;rcases h.2 with h0 | ⟨g,cap,cur,hv,hb,rest⟩
 ·exact .inl h0
 ·exact .inr ⟨g,cap,cur,hv,Nat.le_trans hB hb,rest⟩
theorem info_strN:(Tryz.prog.info? 9).map (fun i=> (i.zero,i.size,i.bytes))=some (some (.string ⟨#[]⟩),1,16):=by kernel_rfl
theorem nnew_any(w:World):Calls Tryz.prog 84 #[] w fun e w'=> e= .returned (.pointer (some ⟨w.heap.size,0,none⟩))∧NvAt w.heap.size w' w.heap.size (.slice none 0 0) []∧Ext w w':=by have HQ:=ZA (blk_alloc w (.cells #[.slice none 0 0,.bool true] 157));go_enter Tryz.func84,Tryz.ntmps84;go_wp2_with fail;go_ret;exact ⟨rfl,⟨HQ.o,World.ownsRow_nil _ _ _ _,Nat.le_refl _,(fun s hs=> by cases hs),Nat.zero_le _⟩,(Upd.refl none' w).alloc _⟩
theorem nsize_any(H:NvAt B w lb lv ls):Calls Tryz.prog 88 #[.pointer (some ⟨lb,0,none⟩)] w fun e w'=> e= .returned (.int .u64 ls.length)∧w=w':=by
 obtain ⟨A,c,rfl⟩:=own_sl H.row;have c0:w.cell? ⟨lb,0,none⟩=some (.slice A ls.length c):=cell_of_blk H.blk 0;have hw:IntKind.u64.wrap (ls.length:Int)=ls.length:=by rw[IntKind.wrap_u64];have:=H.cnt;omega
 clear H;go_enter Tryz.func88,Tryz.ntmps88;go_wp2_with fail;go_ret;exact ⟨rfl,rfl⟩
theorem nleaf_any(H:NvAt B w lb lv ls)(i:Nat)(hi:i < ls.length):Calls Tryz.prog 90 #[.pointer (some ⟨lb,0,none⟩),.int .u64 i] w fun e w'=> e= .returned (.tuple #[.string (str ls[i]),.nilIface])∧w=w':=by
 have CS:=nsize_any H;rcases own_form H.row with ⟨_,h0⟩ | ⟨g,c,rfl,_⟩
 ·omega
 have c0:w.cell? ⟨lb,0,none⟩=some (.slice (some ⟨g,0,none⟩) ls.length c):=cell_of_blk H.blk 0;have c1:w.cell? ⟨lb,1,none⟩=some (.bool true):=cell_of_blk H.blk 1;have c2:w.cell? ⟨g,i,none⟩=some (.string (str ls[i])):=by have h9:=H.row.cells (g:=g) rfl i (encStr ls[i]) (by rw[List.getElem?_map,List.getElem?_eq_getElem hi];rfl);rwa [Addr.add_lit,Nat.zero_add] at h9
 have hb:=H.cnt;generalize ls[i]=s at*;obtain ⟨n,hn⟩:∃n,n=ls.length:=⟨_,rfl⟩;rw[←hn] at c0 CS hi hb;have hlt:¬(n:Int)≤i:=by omega
 have hin:(i:Int) < n:=by omega
 clear H hn;go_enter Tryz.func90,Tryz.ntmps90;go_wp2_with fail;refine CS.mono ?_;rintro e w1 ⟨rfl,rfl⟩;go_wp2_with fail;go_ret2;exact ⟨rfl,rfl⟩
theorem nappend_any(H:NvAt B w lb lv ls)(s:List UInt8)(hs:s.length≤65536)(hc:ls.length < 1048576):
 Calls Tryz.prog 31 #[.pointer (some ⟨lb,0,none⟩),.string (str s)] w fun e w'=> e= .returned (.tuple #[.int .u64 ls.length,.nilIface])∧(∃lv',NvAt B w' lb lv' (ls++ [s]))∧Upd (fun g=> g=lb∨lv.ownBlock=some g) w w':=by
 obtain ⟨i0,hi0,hz0,hz1,hz2⟩:=info_parts info_strN;obtain ⟨A,c,rfl⟩:=own_sl H.row;have c0:w.cell? ⟨lb,0,none⟩=some (.slice A ls.length c):=cell_of_blk H.blk 0;have c1:w.cell? ⟨lb,1,none⟩=some (.bool true):=cell_of_blk H.blk 1;have HH:=ZA H;have HS:=ZA hs;have hsz:¬(65536:Int) < (s.length:Int):=by omega
 have HX:=ZA ((Upd.refl none' w).alloc (.cells #[.string (str s)] 9));have HO:=ZA (ownsRow_upd H.row HX.o (fun _ _=> id));have HCN:Hid (CellsAt (w.alloc (.cells #[.string (str s)] 9)) (some ⟨w.heap.size,0,none⟩) [.string (str s)]):=ZA (fun j u hu=> ⟨_,rfl,by rw[Addr.add_lit];exact blk_cells (blk_alloc w (.cells #[.string (str s)] 9)) j u hu⟩)
 have HO1:Hid (∀u∈([.string (str s)]:List Value),u.oneCell'=true):=ZA (by intro u hu;rw[List.mem_singleton.1 hu];rfl);obtain ⟨n,hn⟩:∃n,n=ls.length:=⟨_,rfl⟩;have HN:=ZA hn;rw[←hn] at c0 hc HO⊢;have HLM:Hid (n+1≤maxLen∧(n+1)*16≤140737488355328):=ZA (by unfold maxLen;omega);have HBW:Hid (B≤(w.alloc (.cells #[.string (str s)] 9)).heap.size):=ZA (Nat.le_trans (Nat.le_trans H.lo (Nat.le_of_lt (lt_of_blk H.blk))) HX.o.size);have hnl:¬(1048576:Int)≤n:=by omega
 have hnw:IntKind.u64.wrap (n:Int)=n:=by rw[IntKind.wrap_u64];omega
 clear H hs hn;go_enter Tryz.func31,Tryz.ntmps31;go_wp2_with (first
  | (refine wpList_run rfl (exec_build1 22 9 _ rfl (.string (str s)) rfl Tryz.underlying22 i0 _ hi0 hz0 hz1 rfl) ?_)
  | (at_builtin;(refine wpList_appX rfl _ _ 22 rfl B 9 i0 _ 1 16 Tryz.underlying22 hi0 hz0 hz1 hz2 rfl (by decide) (.slice A n c) n _ rfl HO.o (some ⟨w.heap.size,0,none⟩) 1 1 [.string (str s)] rfl rfl HCN.o HO1.o HLM.o.1 HLM.o.2 HBW.o ?_)))
 intro A7 c7 w7 hown7 hgrow7 _;have u7:Upd (fun g=> (Value.slice A n c).ownBlock=some g) (w.alloc (.cells #[.string (str s)] 9)) w7:=(Upd.refl _ _).grown hgrow7 (fun g hg=> .inr hg);have hb7:w7.heap[lb]? =some (.cells #[.slice A ls.length c,.bool true] 157 (0,0)):=u7.blk (Ext.blk HX.o HH.o.blk) (fun hg=> by obtain ⟨c9,hc9⟩:=row_type HO.o hg;have h3:=Ext.blk HX.o HH.o.blk;rw[h3] at hc9;simp at hc9)
 have HB7:=ZA hb7;have HO7:=ZA hown7;have HU7:=ZA u7;have b0:w7.cell? ⟨lb,0,none⟩=some (.slice A ls.length c):=cell_of_blk hb7 0;have b1:w7.cell? ⟨lb,1,none⟩=some (.bool true):=cell_of_blk hb7 1;have bf:=free_of_blk hb7 0;have hni:IntKind.i64.wrap (((n:Int)+1) - 1)=n:=(IntWalk.i64_in _ (by omega)).trans (by omega);have hn1:((n:Int)+1) - 1=n:=by omega
 clear hown7 hgrow7 u7 hb7;go_wp2_with fail;go_ret2;refine ⟨by first | rfl | simp,⟨.slice A7 (n+1) c7,?_,?_,HH.o.lo,?_,?_⟩,?_⟩
 ·have h9:=blk_set HB7.o 0 (.slice A7 (n+1) c7);simpa using h9
 ·have u9:=(Upd.refl (one lb) w7).setCell (p:=⟨lb,0,none⟩) (.inr rfl) (.slice A7 (n+1) c7);have h9:=rows_upd HO7.o u9 (fun g hg e=> by obtain ⟨c9,hc9⟩:=row_type HO7.o hg;rw[show g=lb from e,HB7.o] at hc9;simp at hc9)
  rw[List.length_append,List.map_append,List.length_singleton,←HN.o];exact h9
 ·intro t ht;rcases List.mem_append.1 ht with h | h
  ·exact HH.o.sz t h
  ·rw[List.mem_singleton.1 h];exact HS.o
 ·rw[List.length_append,List.length_singleton,←HN.o];omega
 ·have u8:Upd (fun g=> g=lb∨(Value.slice A n c).ownBlock=some g) w w7:=Upd.trans (HX.o.mono (fun _ _ h=> h.elim)) (HU7.o.mono (fun g _ h=> .inr h));exact u8.setCell (p:=⟨lb,0,none⟩) (.inr (.inl rfl)) _
end Go.Proofs.YtnkcfkjeeennmaaGreatDoor
