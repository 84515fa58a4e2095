/- The arguments of RestoreCrashes, opened: batches of texts, and numbers. -/
import Derived.Test.YtjnjpgdoncbahaaGreatDoorHEq
import Derived.Test.YtjnjpgdoncbahaaGreatDoorRsLives
namespace Go.Proofs.YtjnjpgdoncbahaaGreatDoor
open Go.ChangeShapes Go.WideShapes Go.ChangeAt Go.RowKit Go.Lib Go.Deep
set_option maxRecDepth 20000
variable {b0:Nat}{p:List MemPlace}{r:Reach}
section
variable {H:Type} {enc:TypeId×Value→H} {w:World}
theorem strs_trodN{fuel:Nat}{cs:List Value}{y:DataW H×List MemPlace}(h:DataW.trod enc Tryz.prog w 0 (fun _=> true) true fuel 34 cs=some y):
 ∃(x:Option Addr×Nat×List (List UInt8)),cs= [.slice x.1 x.2.2.length x.2.1]∧TextsAt w x.1 (strs x.2.2)∧x.2.2.length≤9223372036854775807:=by
 obtain ⟨c,rfl⟩:∃c,cs= [c]:=by
  rcases open_slice Tryz.underlying34 h with ⟨h0,_⟩ | ⟨a,len,cap,m,n,D,Pl,h0,_⟩
  ·exact ⟨_,h0⟩
  ·exact ⟨_,h0⟩
 obtain ⟨a,cap,xs,e,hl,hr,_,hs,_⟩:=rows_trodB (fun x:ByteArray=> [.string x]) 1 (by decide) (fun x _=> x.size≤maxLen) ⟨#[]⟩ Tryz.underlying34 cells_str (fun fuel cs y ht=> by obtain ⟨k,h1,_,h2⟩:=DataW.trod_string Tryz.underlying9 ht;exact ⟨k,h1,h2⟩) h
 have hq:strs (xs.map (fun s=> s.data.toList))=xs:=by
  unfold strs;rw[List.map_map];have:((fun b:List UInt8=> (⟨b.toArray⟩:ByteArray))∘fun s:ByteArray=> s.data.toList)=id:=by funext s;exact str_toList s
  rw[this,List.map_id]
 refine ⟨(a,cap,xs.map (fun s=> s.data.toList)),by rw[e];simp only[List.length_map],?_,by simp only[List.length_map];exact hl⟩;show TextsAt w a (strs (xs.map (fun s=> s.data.toList)));rw[hq];intro i x hx;obtain ⟨b,o,ea,hc⟩:=hr i x hx;have h4:=hc 0 _ rfl;obtain ⟨d,h5,_⟩:=hs x (List.mem_of_getElem? hx);exact ⟨h5,b,o,ea,by simpa using h4⟩
theorem cells_sls:Tryz.prog.cellsOf 34=1:=by kernel_rfl
theorem batches_arg{v:Value}{d:DataW H}(hval:Value.okWide Tryz.prog w r b0 101 v)(h:DataW.Trod enc Tryz.prog w 0 (fun _=> true) true 101 v d p):
 ∃(a:Option Addr) (cap:Nat) (bs:List (Option Addr×Nat×List (List UInt8))),v= .slice a bs.length cap∧bs.length≤9223372036854775807∧BsAt w a bs:=by
 obtain ⟨a0,len,cap0,rfl⟩:=okWide_slice Tryz.underlying101 hval;obtain ⟨fuel,hf⟩:=h;obtain ⟨a,cap,xs,e,hl,hr,_,hs,_⟩:=rows_trodB (y:=(d,p)) (fun x:Option Addr×Nat×List (List UInt8)=> [.slice x.1 x.2.2.length x.2.1]) 1 (by decide) (fun x _=> TextsAt w x.1 (strs x.2.2)∧x.2.2.length≤9223372036854775807) (none,0,[]) Tryz.underlying101 cells_sls (fun fuel cs y ht=> strs_trodN ht) hf;refine ⟨a,cap,xs,e,hl,fun i t hi=> ?_⟩;obtain ⟨b,o,ea,hc⟩:=hr i t hi;have h4:=hc 0 _ rfl;obtain ⟨d9,⟨h5,h6⟩,_⟩:=hs t (List.mem_of_getElem? hi);exact ⟨b,o,ea,by simpa using h4,h5,h6⟩
theorem intsN_arg{v:Value}{d:DataW H}(hval:Value.okWide Tryz.prog w r b0 27 v)(h:DataW.Trod enc Tryz.prog w 0 (fun _=> true) true 27 v d p):
 ∃(a:Option Addr) (cap:Nat) (zs:List Int),v= .slice a zs.length cap∧zs.length≤9223372036854775807∧RdsAt w a zs:=by
 obtain ⟨a,cap,xs,e,hl,hp,hr⟩:=rows_open (fun x:Int=> [.int .i64 x]) 1 (fun _=> True) 0 Tryz.underlying27 cells_int (fun fuel cs y ht=> by obtain ⟨k,h1,_,h2⟩:=DataW.trod_int Tryz.underlying3 ht;exact ⟨k,h1,trivial⟩) hval h
 exact ⟨a,cap,xs,e,hl,fun i x hx=> by obtain ⟨b,o,ea,hc⟩:=hr i x hx;have:=hc 0 _ rfl;exact ⟨b,o,ea,by simpa using this⟩⟩
end
end Go.Proofs.YtjnjpgdoncbahaaGreatDoor
