/- Hashes compared: equal just if their bytes are. Nothing of a statement. -/
import Derived.Test.YtnkcfkjeeennmaaGreatDoorEqual
import Derived.Test.YtnkcfkjeeennmaaGreatDoorShaU
namespace Go.Proofs.YtnkcfkjeeennmaaGreatDoor
open Go.ChangeShapes Go.WideShapes Go.ChangeAt Go.RowKit Go.Lib Go.Deep
set_option maxRecDepth 20000
variable {tr ty:TypeId}{x y:Operand}
theorem mapM_eq{α β:Type}{f:α→Option β}{g:α→β}:∀(l:List α),(∀x∈l,f x=some (g x))→l.mapM f=some (l.map g)
 | [],_=> rfl
 | x::l,h=> by rw[List.mapM_cons,h x (by simp),mapM_eq l (fun a ha=> h a (by simp[ha]))];rfl
def litU(b:UInt8):Lit:= .int .u8 (b.toNat:Int)
theorem flat_one{α β:Type}(g:α→β):∀(l:List α),(l.map (fun x=> [g x])).flatten=l.map g
 | []=> rfl
 | x::l=> by rw[List.map_cons,List.flatten_cons,flat_one g l];rfl
theorem hash_litsE(d:Nat)(hs:List UInt8)(h:hs.length=32):Tryz.prog.keyLits (d+2) 30 (hs.map u8v)=some (hs.map litU):=by
 unfold Program.keyLits;rw[Tryz.underlying30];simp only[List.length_map,h,cells_hash,if_true];rw[mapM_eq (g:=fun i=> [litU (hs.getD i 0)]) (List.range 32) (fun i hi=> by
  have hi:=List.mem_range.1 hi;rw[cells_u8,Nat.mul_one,List.drop_eq_getElem_cons (by simpa using (by omega:i < hs.length))];unfold Program.keyLits;rw[Tryz.underlying5];have hg:hs[i]?.getD 0=hs[i]'(by omega):=by rw[List.getElem?_eq_getElem (by omega)];rfl
  simp[u8_wf,litU,hg])]
 simp only[Option.map_some,Option.some.injEq];rw[flat_one (fun i=> litU (hs.getD i 0))];refine List.ext_getElem (by simp[h]) fun i h1 h2=> ?_;have h3:i < hs.length:=by simp at h1;omega
 simp[List.getD_eq_getElem?_getD,List.getElem?_eq_getElem h3]
theorem litU_inj:∀{x y:List UInt8},x.map litU=y.map litU→x=y
 | [],[],_=> rfl
 | [],_::_,h=> by simp at h
 | _::_,[],h=> by simp at h
 | a::x,b::y,h=> by simp only[List.map_cons,List.cons.injEq,litU,Lit.int.injEq,true_and] at h;have h1:a=b:=UInt8.toNat_inj.1 (by have:=h.1;omega);have h2:x=y:=litU_inj (x:=x) (y:=y) h.2;rw[h1,h2]
theorem hash_formed(hs:List UInt8)(hh:hs.length=32):Value.formed Tryz.prog 30 (hashV hs)=true:=by unfold Value.formed;rw[Tryz.underlying30,cells_hash];simp[hh]
theorem hash_cmp(x y:List UInt8)(hx:x.length=32)(hy:y.length=32)(w:World):(Op.equalIn 10000 30 (hashV x) (hashV y)).run Tryz.prog w= .ok (decide (x=y)) w:=by
 obtain ⟨r,h1,h2⟩:=run_equalIn_deep (P:=Tryz.prog) 9995 5 30 key_hash w 2 2 _ _ (x.map litU) (y.map litU) (hash_formed x hx) (hash_formed y hy) (by simpa[Value.cells] using hash_litsE 0 x hx) (by simpa[Value.cells] using hash_litsE 0 y hy);have hr:r=decide (x=y):=by
  by_cases e:x=y
  ·rw[decide_eq_true e];exact h2.2 (by rw[e])
  ·rw[decide_eq_false e];cases r with
   | false=> rfl
   | true=> exact absurd (litU_inj (h2.1 rfl)) e
 rw[hr] at h1;exact h1
section
variable {P:Program} {o:Oper} {a:Act} {w:World}
theorem run_eqlAgg(ho:o.op= .binOp .eql ty x y tr)(cs ds:Array Value)(b:Bool)(hx:a.eval x= .agg cs)(hy:a.eval y= .agg ds)(hm:P.eqGuardType P.depth ty=false)(h:(Op.equalIn 10000 ty (.agg cs) (.agg ds)).run P w= .ok b w):(execOp a.eval o).run P w= .ok (.value (.bool b)) w:=by unfold execOp;simp only[ho,hx,hy,Sem.run_bind,run_eqGuard_agg w _ _ _ _ _ _ hm,run_eql_struct,h,Result.andThen_ok,Sem.run_pure]
theorem run_neqAgg(ho:o.op= .binOp .neq ty x y tr)(cs ds:Array Value)(b:Bool)(hx:a.eval x= .agg cs)(hy:a.eval y= .agg ds)(hm:P.eqGuardType P.depth ty=false)(h:(Op.equalIn 10000 ty (.agg cs) (.agg ds)).run P w= .ok b w):(execOp a.eval o).run P w= .ok (.value (.bool (!b))) w:=by unfold execOp;simp only[ho,hx,hy,Sem.run_bind,run_eqGuard_agg w _ _ _ _ _ _ hm,run_neq_struct,h,Result.andThen_ok,Sem.run_pure]
end
theorem run_eqlH{o:Oper}{a:Act}(w:World)(ho:o.op= .binOp .eql 30 x y tr)(p q:List UInt8)(hx:a.eval x=hashV p)(hy:a.eval y=hashV q)(hp:p.length=32)(hq:q.length=32):(execOp a.eval o).run Tryz.prog w= .ok (.value (.bool (decide (p=q)))) w:=
 run_eqlAgg (P:=Tryz.prog) ho (p.map u8v).toArray (q.map u8v).toArray (decide (p=q)) hx hy guard_hash (hash_cmp p q hp hq w)
theorem run_neqH{o:Oper}{a:Act}(w:World)(ho:o.op= .binOp .neq 30 x y tr)(p q:List UInt8)(hx:a.eval x=hashV p)(hy:a.eval y=hashV q)(hp:p.length=32)(hq:q.length=32):(execOp a.eval o).run Tryz.prog w= .ok (.value (.bool (!decide (p=q)))) w:=
 run_neqAgg (P:=Tryz.prog) ho (p.map u8v).toArray (q.map u8v).toArray (decide (p=q)) hx hy guard_hash (hash_cmp p q hp hq w)
theorem wpList_runG{P:Program}{ops:Array Oper}{rest:List Oper}{o:Oper}{a:Act}{Q:Exit→Act→World→Prop}{w w':World}{v:Value}(hw:Region.wanted o (yielded ops a.tmps)=true)(hr:(execOp a.eval o).run P w= .ok (.value v) w')(h:wpList P ops Q rest (a.put o.dst v) w'):wpList P ops Q (o::rest) a w:=by refine wpList_step fun K hK=> ?_;rw[if_pos hw];unfold Oper.wp;rw[hr];exact hK _ _ h
end Go.Proofs.YtnkcfkjeeennmaaGreatDoor
