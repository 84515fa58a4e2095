/- Tiles compared: equal just if their numbers are. -/
import Derived.Test.YtnkcfkjeeennmaaGreatDoorHEq
import Derived.Test.YtnkcfkjeeennmaaGreatDoorNoneP
namespace Go.Proofs.YtnkcfkjeeennmaaGreatDoor
open Go.ChangeShapes Go.WideShapes Go.ChangeAt Go.RowKit Go.Lib Go.Deep
set_option maxRecDepth 20000
variable {n:Nat}
theorem cells_tl:Tryz.prog.cellsOf 115=3:=by kernel_rfl
theorem cells_u64q:Tryz.prog.cellsOf 28=1:=by kernel_rfl
theorem cells_intq:Tryz.prog.cellsOf 3=1:=by kernel_rfl
theorem guard_tl:Tryz.prog.eqGuardType Tryz.prog.depth 115=false:=by kernel_rfl
theorem key_tl:Tryz.prog.keyTypeAt 5 115=true:=by kernel_rfl
def TlOk(t:Nat×Nat×Nat):Prop:=t.1 < 256∧t.2.1 < 18446744073709551616∧t.2.2≤9223372036854775807
theorem u8n_wf(h:n < 256):(Lit.int .u8 (n:Int)).wf=true:=by simp[Lit.wf,IntKind.min,IntKind.max,IntKind.signed,IntKind.bits];omega
theorem u8_litsq(d:Nat)(h:n < 256):Tryz.prog.keyLits (d+1) 5 [.int .u8 n]=some [.int .u8 n]:=by unfold Program.keyLits;rw[Tryz.underlying5];simp[u8n_wf h]
theorem u64_litsq(d:Nat)(h:n < 18446744073709551616):Tryz.prog.keyLits (d+1) 28 [.int .u64 n]=some [.int .u64 n]:=by unfold Program.keyLits;rw[Tryz.underlying28];simp[u64_wf h]
theorem int_litsq(d:Nat){n:Int}(h1: -9223372036854775808≤n)(h2:n≤9223372036854775807):Tryz.prog.keyLits (d+1) 3 [.int .i64 n]=some [.int .i64 n]:=by unfold Program.keyLits;rw[Tryz.underlying3];simp[i64_wf h1 h2]
theorem tile_lits(d:Nat)(t:Nat×Nat×Nat)(h:TlOk t):Tryz.prog.keyLits (d+3) 115 (tlC t)=some [.int .u8 t.1,.int .u64 t.2.1,.int .i64 t.2.2]:=by unfold Program.keyLits;rw[Tryz.underlying115];dsimp only;rw[if_pos ⟨by rw[cells_tl];rfl,by decide+kernel⟩];simp only[List.mapM_cons,List.mapM_nil,cells_intq,cells_u64q,cells_u8];simp[tlC,u8_litsq (d+1) h.1,u64_litsq (d+1) h.2.1,int_litsq (d+1) (n:=(t.2.2:Int)) (by omega) (by have:=h.2.2;omega)]
theorem tile_formed(t:Nat×Nat×Nat):Value.formed Tryz.prog 115 (.agg (tlC t).toArray)=true:=by unfold Value.formed;rw[Tryz.underlying115,cells_tl];rfl
theorem tile_cmp(s t:Nat×Nat×Nat)(hs:TlOk s)(ht:TlOk t)(w:World):(Op.equalIn 10000 115 (.agg (tlC s).toArray) (.agg (tlC t).toArray)).run Tryz.prog w= .ok (decide (s=t)) w:=by
 obtain ⟨r,h1,h2⟩:=run_equalIn_deep (P:=Tryz.prog) 9995 5 115 key_tl w 3 3 _ _ _ _ (tile_formed s) (tile_formed t) (by simpa[Value.cells] using tile_lits 0 s hs) (by simpa[Value.cells] using tile_lits 0 t ht);have hr:r=decide (s=t):=by
  by_cases e:s=t
  ·rw[decide_eq_true e];exact h2.2 (by rw[e])
  ·rw[decide_eq_false e];cases r with
   | false=> rfl
   | true=>
    exfalso;apply e;have h9:=h2.1 rfl;simp only[List.cons.injEq,Lit.int.injEq,true_and,and_true] at h9;obtain ⟨s1,s2,s3⟩:=s;obtain ⟨t1,t2,t3⟩:=t;simp only at h9;have a1:s1=t1:=by omega
    have a2:s2=t2:=by omega
    have a3:s3=t3:=by omega
    rw[a1,a2,a3]
 rw[hr] at h1;exact h1
theorem run_eqlT{o:Oper}{a:Act}(w:World){x y:Operand}{tr:TypeId}(ho:o.op= .binOp .eql 115 x y tr)(s t:Nat×Nat×Nat)(hx:a.eval x= .agg (tlC s).toArray)(hy:a.eval y= .agg (tlC t).toArray)(hs:TlOk s)(ht:TlOk t):(execOp a.eval o).run Tryz.prog w= .ok (.value (.bool (decide (s=t)))) w:=
 run_eqlAgg (P:=Tryz.prog) ho (tlC s).toArray (tlC t).toArray (decide (s=t)) hx hy guard_tl (tile_cmp s t hs ht w)
end Go.Proofs.YtnkcfkjeeennmaaGreatDoor
