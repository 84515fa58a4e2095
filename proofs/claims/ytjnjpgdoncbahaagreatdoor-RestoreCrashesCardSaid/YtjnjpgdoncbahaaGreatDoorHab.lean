/- Two leaves' hashes and their node's, by SHA-256: plain. cartularyref04.turn, padded by contracts. cartularyref04.schedule, block, Sum by contracts. cartularyref04.block by contract. cartularyref04.table, start by contracts. cartularyref04.Sum by contract. cartularyref05: Leaf, Node, Empty by contracts. Steps of a region (TyG): whatever makes a value; append onto an own row; a slice of one element. Nothing of the program. -/
import Derived.Test.YtjnjpgdoncbahaaGreatDoorShaD
import Derived.Test.YtjnjpgdoncbahaaGreatDoorCode
import Derived.Test.YtjnjpgdoncbahaaGreatDoorAgg
import Derived.Test.YtjnjpgdoncbahaaGreatDoorTyped3
import Derived.Test.YtjnjpgdoncbahaaGreatDoorApp
namespace Go.Proofs.YtjnjpgdoncbahaaGreatDoor
open Go.RowKit Go.Lib
section
variable {P:Program} {L:List Oper} {K:List Nat} {J:Nat→World→Prop} {R:Nat→World→World→Prop} {F:List (Value⊕(Value→World→Prop))} {a0:Act} {i:Nat} {o:Oper}
theorem g_run(hg:Gd3 L F a0 o)(h:∀p a w,loG L K i≤p→p≤hiG L K i→J p w→Hold3 L a0 a→New3 L F o a w→∃v w',(execOp a.eval o).run P w= .ok (.value v) w'∧R p w w'∧Slots3 F i v w'∧J (nextG K i p) w'):OpG P L K J R (Slots3 F) a0 i o:=by intro p a w h1 h2 hJ hH hN;rw[if_pos (hg a w hH hN)];obtain ⟨v,w',hr,h3,h4,h5⟩:=h p a w h1 h2 hJ hH hN;rw[hr];exact ⟨h3,h4,h5⟩
theorem g_moveP(hR:∀p w,R p w w)(hk:K.contains i=false)(hg:Gd3 L F a0 o)(j t:Nat){o':Oper}{q:Value→World→Prop}(ho:o.op= .move (.tmp t))(hF:F[i]? =some (.inr q))(q1:L[j]? =some o')(q2:o'.dst=some t)(q3:(afterOn o).contains j=true)(q4:F[j]? =some (.inr q)):OpG P L K J R (Slots3 F) a0 i o:=
 g_run hg (fun p a w _ _ hj hH hN=> ⟨a.eval (.tmp t),w,by simp[execOp,ho],hR p w,by unfold Slots3;rw[hF];exact new_prop3 j hN q1 q2 q3 q4,by unfold nextG;rw[if_neg (by rw[hk];decide)];exact hj⟩)
theorem g_assignP(hR:∀p w,R p w w)(hk:K.contains i=false)(hg:Gd3 L F a0 o)(j t:Nat){o':Oper}{q:Value→World→Prop}(ho:o.op= .assign (.tmp t))(hF:F[i]? =some (.inr q))(q1:L[j]? =some o')(q2:o'.dst=some t)(q3:(afterOn o).contains j=true)(q4:F[j]? =some (.inr q)):OpG P L K J R (Slots3 F) a0 i o:=
 g_run hg (fun p a w _ _ hj hH hN=> ⟨a.eval (.tmp t),w,by simp[execOp,ho],hR p w,by unfold Slots3;rw[hF];exact new_prop3 j hN q1 q2 q3 q4,by unfold nextG;rw[if_neg (by rw[hk];decide)];exact hj⟩)
theorem g_extract(hR:∀p w,R p w w)(hk:K.contains i=false)(hg:Gd3 L F a0 o)(j t n:Nat){o':Oper}{q:Value→World→Prop}(ho:o.op= .extract (.tmp t) n)(q1:L[j]? =some o')(q2:o'.dst=some t)(q3:(afterOn o).contains j=true)(q4:F[j]? =some (.inr q))
 (h:∀v w,q v w→∃vs u,v= .tuple vs∧vs[n]? =some u∧Slots3 F i u w):OpG P L K J R (Slots3 F) a0 i o:=
 g_run hg (fun p a w _ _ hj hH hN=> by obtain ⟨vs,u,hv,hn,hs⟩:=h _ _ (new_prop3 j hN q1 q2 q3 q4);refine ⟨u,w,?_,hR p w,hs,by unfold nextG;rw[if_neg (by rw[hk];decide)];exact hj⟩;simp[execOp,ho,hv,hn,Instr.extract])
theorem g_callR(f:FuncId)(args:List Operand)(ts:Array TypeId)(hg:Gd3 L F a0 o)(ho:o.op= .call {callee:= .value (.func f),args:=args.toArray,argTypes:=ts})(hb:hasBody P f=true)
 (C:∀p a w,loG L K i≤p→p≤hiG L K i→J p w→Hold3 L a0 a→New3 L F o a w→Calls P f (args.map a.eval).toArray w fun e w'=> ∃v,e= .returned v∧R p w w'∧Slots3 F i v w'∧J (nextG K i p) w'):OpG P L K J R (Slots3 F) a0 i o:=by
 intro p a w h1 h2 hJ hH hN;rw[if_pos (hg a w hH hN)];have hr:(execOp a.eval o).run P w= .ok (.enter f (args.map a.eval).toArray) w:=by simp[execOp,ho,resolve,Deferred.ofValue,Act.eval,invoke];exact run_callFunc_body w f _ hb
 rw[hr];exact C p a w h1 h2 hJ hH hN
theorem exec_appX{a:Act}{w:World}(s x:Operand)(t:TypeId)(ho:o.op= .call {callee:= .builtin .append,args:=#[s,x],argTypes:=#[t,t]})
 (base:Nat) (e:TypeId) (ie:TypeInfo) (z:Value) (size bytes:Nat) (ht:P.underlying t=some (.slice e)) (hi:P.info? e=some ie) (hz:ie.zero=some z)
 (hsize:ie.size=size) (hby:ie.bytes=bytes) (hzs:z.cells.size=size) (hsz:0 < size) (v:Value) (n:Nat) (xs:List Value) (hs:a.eval s=v) (hown:w.ownsRow base e size v n xs)
 (A:Option Addr) (m c:Nat) (news:List Value) (hx:a.eval x= .slice A m c) (hl:news.length=m*size) (hnews:CellsAt w A news) (h1:∀u∈news,u.oneCell'=true)
 (h63:n+m≤maxLen) (hbytes:(n+m)*bytes≤140737488355328) (hbase:base≤w.heap.size):
 ∃A' c' w',(execOp a.eval o).run P w= .ok (.value (.slice A' (n+m) c')) w'∧w'.ownsRow base e size (.slice A' (n+m) c') (n+m) (xs++news)∧w.grownBy w' v.ownBlock∧((Value.slice A' (n+m) c').ownBlock=v.ownBlock∨(Value.slice A' (n+m) c').ownBlock=some w.heap.size):=by
 obtain ⟨v',w',hr,h2,h3,h4⟩:=run_appX (P:=P) w base t o.type e ie z size bytes ht hi hz hsize hby hzs hsz v n xs hown A m c news hl hnews h1 h63 hbytes hbase;obtain ⟨A',c',rfl⟩:=own_sl h2;refine ⟨A',c',w',?_,h2,h3,h4⟩;unfold execOp;simp only[ho,resolve,invoke,builtin,Sem.run_bind,Sem.run_pure,Result.andThen_ok,List.map_toArray,List.map_cons,List.map_nil,hs,hx,hr]
theorem exec_build1{a:Act}{w:World}(t e:TypeId)(y:Operand)(ho:o.op= .buildSlice t 1 #[(0,y)])(v:Value)(hy:a.eval y=v)(hu:P.underlying t=some (.slice e))
 (ie:TypeInfo) (z:Value) (hie:P.info? e=some ie) (hz:ie.zero=some z) (hs:ie.size=1) (hv:v.cells=#[v]):(execOp a.eval o).run P w= .ok (.value (.slice (some ⟨w.heap.size,0,none⟩) 1 1)) (w.alloc (.cells #[v] e)):=by
 have hr:=run_buildSlice (P:=P) w t e 1 #[(0,v)] #[v] ie z hu hie hz (by rw[hs];omega) (by rw[hs];omega) (by simp only[Instr.fill,hs,Nat.zero_mul,Nat.one_mul,hv];rw[if_neg (by simp)];have:=fold_all [v] ((Array.range 1).map (z.cells[· % z.cells.size]!)) (by simp);simpa using this)
 simp only[execOp,ho,List.map_toArray,List.map_cons,List.map_nil,hy,Sem.run_bind,hr,Result.andThen_ok];rfl
end
end Go.Proofs.YtjnjpgdoncbahaaGreatDoor
