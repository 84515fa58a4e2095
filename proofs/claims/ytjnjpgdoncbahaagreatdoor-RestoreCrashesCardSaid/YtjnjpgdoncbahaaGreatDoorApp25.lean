/- A store and its writer, with the log that they hold; appends by contract, in the terms of that log. -/
import Derived.Test.YtjnjpgdoncbahaaGreatDoorKeep1
import Derived.Test.YtjnjpgdoncbahaaGreatDoorAp
import Derived.Test.YtjnjpgdoncbahaaGreatDoorWrN
import Derived.Test.YtjnjpgdoncbahaaGreatDoorAlive25
import Derived.Test.YtjnjpgdoncbahaaGreatDoorNaive
namespace Go.Proofs.YtjnjpgdoncbahaaGreatDoor
open Go.RowKit Go.Lib Go.Sort
set_option maxHeartbeats 2000000
variable {B b mb n wb:Nat}{a ls:List (List UInt8)}{ended:Bool}{tv:Value}{w w':World}{x:StD}
structure SW (B:Nat) (w:World) (b mb wb:Nat) (tv:Value) (x:StD) (ls:List (List UInt8)) (ended:Bool):Prop where
 st:StAt w b mb tv x
 lo:B≤b∧B≤mb∧B≤wb
 wr:∃ev vs,WrAt w wb (.pointer (some ⟨b,0,none⟩)) oL ls.length (mthP (leafHs ls)) ev ended∧EgAt B w ev (edgesP ls) vs
theorem SW.ext(h:SW B w b mb wb tv x ls ended)(u:Ext w w'):SW B w' b mb wb tv x ls ended:=by obtain ⟨ev,vs,h1,h2⟩:=h.wr;exact ⟨h.st.ext u,h.lo,ev,vs,h1.ext u,h2.ext u⟩
theorem root_len(ls:List (List UInt8)):(mthP (leafHs ls)).length=32:=mthP_len _ (leafHs_32 ls)
theorem edges_E32(ls:List (List UInt8)):E32 (edgesP ls):=by have hf:=edgesP_fits ls;refine getD_E32 fun k=> ⟨fits_lt hf k,?_⟩;unfold edgesP;rw[edges_lvl];unfold restL;exact (lvl_32 ls k).drop _
theorem three_not(h:SW B w b mb wb tv x ls ended){g:Nat}{cs:Array Value}{t:TypeId}{f:Nat×Nat}(hg:w.heap[g]? =some (.cells cs t f))(h1:t≠45)(h2:t≠144):¬three b mb wb g:=fun hs=> by
 obtain ⟨ev,vs,hw,_⟩:=h.wr;obtain ⟨es,c,hm⟩:=h.st.tex.blk;rcases hs with e | e | e
 ·rw[e,h.st.blk] at hg;simp at hg;exact h1 hg.2.1.symm
 ·rw[e,hm] at hg;cases hg
 ·rw[e,hw.blk] at hg;simp at hg;exact h2 hg.2.1.symm
theorem row_three{B':Nat}{v:Value}{xs:List Value}(R:w.ownsRow B' 9 1 v n xs)(h:SW B w b mb wb tv x ls ended)(u:Upd (three b mb wb) w w'):w'.ownsRow B' 9 1 v n xs:=
 rows_upd R u (fun g hg=> by obtain ⟨c,hc⟩:=row_type R hg;exact three_not h hc (by decide) (by decide))
structure Live (x:StD) (ls:List (List UInt8)):Prop where
 h:Holds x.texts oL ls
 d:x.dead=false
 c:x.crash=0
 r:x.rs= []
 t:x.texts.length≤x.nw
theorem putTs_le:∀(ps:List (ByteArray×ByteArray)) (T:TxtL),(putTs T ps).length≤T.length+ps.length
 | [],T=> Nat.le_refl _
 | p::ps,T=> by have h1:=putTs_le ps (putL T p.1 p.2);have h2:=putL_le T p.1 p.2;show (putTs (putL T p.1 p.2) ps).length≤_;rw[List.length_cons];omega
theorem app_fine{b:List (List UInt8)}(h:Live x a)(hn:a.length+b.length≤1048576)(hb:b≠ []):
 ∃x',appR x oL a.length (edgesP a) b=(x',none)∧Live x' (a++b)∧x'.nw=x.nw+putsN a.length (a.length+b.length)∧x'.nr=x.nr:=by
 rw[appR_all,puts_fine (allPuts oL a b) x h.d (nm_all oL a b hn) (fun j _=> by rw[h.c];exact ⟨by omega,by omega⟩)];refine ⟨_,rfl,⟨holds_all h.h hn,h.d,h.c,h.r,?_⟩,by rw[←len_all oL a b hn hb],rfl⟩;have h1:=putTs_le (allPuts oL a b) x.texts;have h2:=h.t;show (putTs x.texts (allPuts oL a b)).length≤x.nw+(allPuts oL a b).length;omega
theorem putsN_le{m:Nat}(hnm:n≤m)(hm:m≤1048576):putsN n m≤1073741824:=by have h1:=allT_le hm 3;have h2:(newT n m).length≤(allT m 3).length:=List.length_filter_le _ _;unfold putsN;split <;> omega
theorem long_no(h:∀s∈ls,s.length≤65536):ls.any longS=false:=by rw[List.any_eq_false];intro s hs;have:=h s hs;unfold longS;simp;omega
theorem sw_append{se:Nat→Addr}(E:Env B se w)(H:SW B w b mb wb tv x a false)(L:Live x a)(A:Option Addr)(c:Nat)(hc:CellsAt w A (strC ls))(hA:A=none∨∃g o,A=some ⟨g,o,none⟩)(hAn:∀ad,A=some ad→ad.block≠b∧ad.block≠mb∧ad.block≠wb)(h4:ls.length≤4096)(hn:a.length+ls.length≤1048576)(hsz:∀s∈ls,s.length≤65536)(hnw:x.nw≤1099511627776):
 Calls Tryz.prog 20 #[.pointer (some ⟨wb,0,none⟩),.slice A ls.length c] w fun e w'=> ∃x',e= .returned (.tuple #[ckV oL (a++ls).length (mthP (leafHs (a++ls))),.nilIface])∧SW B w' b mb wb tv x' (a++ls) false∧Live x' (a++ls)∧x'.nw=x.nw+putsN a.length (a.length+ls.length)∧x'.nr=x.nr∧Upd (three b mb wb) w w':=by
 obtain ⟨ev,vs,hw,he⟩:=H.wr;by_cases hls:ls= []
 ·subst hls;refine (append_empty E hw (root_len a) (by simp at hn;omega) A c hA).mono ?_;rintro e w' ⟨rfl,hx⟩;have hp:putsN a.length (a.length+([]:List (List UInt8)).length)=0:=by unfold putsN;rw[if_pos (by simp)]
  rw[List.append_nil,hp];exact ⟨x,rfl,H.ext hx,L,rfl,rfl,hx.mono (fun _ _ h=> h.elim)⟩
 ·obtain ⟨x',hr,L',hw',hnr⟩:=app_fine (b:=ls) L hn hls;have hlen:=List.length_pos_iff.2 hls;refine (append_any E hw (root_len a) H.st H.lo.1 H.lo.2.1 H.lo.2.2 he (edgesP_fits a) (edges_E32 a) A ls c hc hA hAn hlen h4 hn (long_no hsz) name_log (by decide) hnw (Nat.le_trans L.t hnw)).mono ?_;rintro e w' ⟨h1,h2,h3⟩;rw[hr] at h1 h3;obtain ⟨ev',vs',rfl,hw2,he2⟩:=h3;have hE:(appG a.length (edgesP a) ls).es=edgesP (a++ls):=(addsP_es (leafHs ls) a.length (gr0 (edgesP a)) (edgesP_fits a)).trans (edgesP_app a ls);rw[hE] at he2;rw[appG_root,←List.length_append] at hw2;rw[appG_root,←List.length_append];exact ⟨x',rfl,⟨h1,H.lo,ev',vs',hw2,he2⟩,L',by rw[List.length_append];exact hw',hnr,h2⟩
end Go.Proofs.YtjnjpgdoncbahaaGreatDoor
