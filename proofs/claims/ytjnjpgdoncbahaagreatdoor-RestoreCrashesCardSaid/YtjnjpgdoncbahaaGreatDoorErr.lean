/- The errors of package api: errors.Is at the sixteen sentinels, errors.As at *api.Fault, and the statements' Code, At, Is, IsAt, Same, by contracts. Go's own text of errors.Is, is, As, as is walked. errors.As at a target of type **api.Fault, by contracts: nil, a sentinel, a *Fault. Go's own text of errors.As and errors.as is walked; the model's entries for reflectlite by closed facts. -/
import Derived.Test.YtjnjpgdoncbahaaGreatDoorBase
namespace Go.Proofs.YtjnjpgdoncbahaaGreatDoor
open Go.RowKit Go.Extern.Stop Go.Stop Go.Extern
set_option maxHeartbeats 4000000
theorem eTypeOfS(v:Value)(w:World):(ReflectliteType.typeOf #[.iface 457 v]).run Tryz.prog w= .ok (.iface 388 (.agg #[.pointer (some ⟨25,457,none⟩)])) w:=by kernel_rfl
theorem eTypeOfF(v:Value)(w:World):(ReflectliteType.typeOf #[.iface 201 v]).run Tryz.prog w= .ok (.iface 388 (.agg #[.pointer (some ⟨25,201,none⟩)])) w:=by kernel_rfl
def entComparable:Array Value→Sem Value:=ReflectliteType.method fun t=> do Rtype.noPackHeld "Comparable" t;pure (.bool (←typeInfo t).comparable)
theorem eComparable(w:World):(entComparable #[.agg #[.pointer (some ⟨25,457,none⟩)]]).run Tryz.prog w= .ok (.bool true) w:=by kernel_rfl
theorem eMethodComparable(v:Value)(w:World):(Go.method 586 388 v "Comparable").run Tryz.prog w= .ok (362,v) w:=by kernel_rfl
theorem eComp:(Tryz.prog.info? 457).map (·.comparable)=some true:=by kernel_rfl
theorem eSize:(Tryz.prog.info? 476).map (·.size)=some 1:=by kernel_rfl
theorem eNoIsS(v:Value)(xT:TypeId)(w:World):(Instr.typeAssert (.iface 457 v) xT 390 true).run Tryz.prog w= .ok (.tuple #[.nilIface,.bool false]) w:=run_typeAssert_lacksB Tryz.underlying390 (by kernel_rfl) (by kernel_rfl) v xT w
theorem eNoUnwrapS(v:Value)(xT:TypeId)(w:World):(Instr.typeAssert (.iface 457 v) xT 393 true).run Tryz.prog w= .ok (.tuple #[.nilIface,.bool false]) w:=run_typeAssert_lacksB Tryz.underlying393 (by kernel_rfl) (by kernel_rfl) v xT w
theorem eNoUnwrapsS(v:Value)(xT:TypeId)(w:World):(Instr.typeAssert (.iface 457 v) xT 395 true).run Tryz.prog w= .ok (.tuple #[.nilIface,.bool false]) w:=run_typeAssert_lacksB Tryz.underlying395 (by kernel_rfl) (by kernel_rfl) v xT w
theorem eNoAsS(v:Value)(xT:TypeId)(w:World):(Instr.typeAssert (.iface 457 v) xT 400 true).run Tryz.prog w= .ok (.tuple #[.nilIface,.bool false]) w:=run_typeAssert_lacksB Tryz.underlying400 (by kernel_rfl) (by kernel_rfl) v xT w
theorem eNoIsF(v:Value)(xT:TypeId)(w:World):(Instr.typeAssert (.iface 201 v) xT 390 true).run Tryz.prog w= .ok (.tuple #[.nilIface,.bool false]) w:=run_typeAssert_lacksB Tryz.underlying390 (by kernel_rfl) (by kernel_rfl) v xT w
theorem eHasUnwrapF(v:Value)(xT:TypeId)(w:World):(Instr.typeAssert (.iface 201 v) xT 393 true).run Tryz.prog w= .ok (.tuple #[.iface 201 v,.bool true]) w:=run_typeAssert_hasB Tryz.underlying393 (by kernel_rfl) v xT w
theorem eMethodUnwrap(v:Value)(w:World):(Go.method 586 201 v "Unwrap").run Tryz.prog w= .ok (354,v) w:=by kernel_rfl
theorem is_nil(b:Addr)(w:World):
 Calls Tryz.prog 144 #[.nilIface,.iface 457 (.pointer (some b))] w fun e w'=> e= .returned (.bool false)∧w=w':=by
 have hn:=run_eql_iface_nil_left (P:=Tryz.prog) w 457 (.pointer (some b)) Tryz.underlying24;go_enter Tryz.func144,Tryz.ntmps144;go_wp2;go_ret;exact ⟨rfl,rfl⟩
theorem is_same(a:Addr)(w:World):
 Calls Tryz.prog 144 #[.iface 457 (.pointer (some a)),.iface 457 (.pointer (some a))] w fun e w'=> e= .returned (.bool true)∧w=w':=by
 obtain ⟨i,hi,hcmp⟩:=Option.map_eq_some_iff.1 eComp;obtain ⟨j,hj,hjs⟩:=Option.map_eq_some_iff.1 eSize;have h8:= @run_callFunc_extern Tryz.prog 220 _ ReflectliteType.typeOf Tryz.func220 (by kernel_rfl) (by kernel_rfl) (by kernel_rfl) (by kernel_rfl);have h32:= @run_callFunc_extern Tryz.prog 362 _ entComparable Tryz.func362 (by kernel_rfl) (by kernel_rfl) (by kernel_rfl) (by kernel_rfl);have tT:=eTypeOfS;have cT:=eComparable;have mR:=eMethodComparable;have heq:=run_eql_iface_ptr_same (P:=Tryz.prog) w a Tryz.underlying24 Tryz.underlying457 hi hcmp hj;go_enter Tryz.func144,Tryz.ntmps144;go_wp2;refine wp_loop_rounds 1 ?_;rw[rounds_succ];go_wp2;go_ret;exact ⟨rfl,rfl⟩
theorem is_other(a b:Addr)(ca cb:Array Value)(ta tb:TypeId)(w:World)(hne:a≠b)(ha:w.heap[a.block]? =some (.cells ca ta (0,0)))(hb:w.heap[b.block]? =some (.cells cb tb (0,0))):
 Calls Tryz.prog 144 #[.iface 457 (.pointer (some a)),.iface 457 (.pointer (some b))] w fun e w'=> e= .returned (.bool false)∧w=w':=by
 obtain ⟨i,hi,hcmp⟩:=Option.map_eq_some_iff.1 eComp;obtain ⟨j,hj,hjs⟩:=Option.map_eq_some_iff.1 eSize;have h8:= @run_callFunc_extern Tryz.prog 220 _ ReflectliteType.typeOf Tryz.func220 (by kernel_rfl) (by kernel_rfl) (by kernel_rfl) (by kernel_rfl);have h32:= @run_callFunc_extern Tryz.prog 362 _ entComparable Tryz.func362 (by kernel_rfl) (by kernel_rfl) (by kernel_rfl) (by kernel_rfl);have tT:=eTypeOfS;have cT:=eComparable;have mR:=eMethodComparable;have nE:=eNoIsS;have uE:=eNoUnwrapS;have vE:=eNoUnwrapsS;have heq:=run_eql_iface_ptr_other (P:=Tryz.prog) w Tryz.underlying24 Tryz.underlying457 hi hcmp hj (by rw[hjs];decide) hne ha hb;clear ha hb hne;go_enter Tryz.func144,Tryz.ntmps144;go_wp2;refine wp_loop_rounds 1 ?_;rw[rounds_succ];go_wp2;go_ret;exact ⟨rfl,rfl⟩
theorem is_fault_same(p:Nat)(a:Addr)(w:World)(h1:w.cell? ⟨p,0,none⟩=some (.iface 457 (.pointer (some a)))):
 Calls Tryz.prog 144 #[.iface 201 (.pointer (some ⟨p,0,none⟩)),.iface 457 (.pointer (some a))] w fun e w'=> e= .returned (.bool true)∧w=w':=by
 obtain ⟨i,hi,hcmp⟩:=Option.map_eq_some_iff.1 eComp;obtain ⟨j,hj,hjs⟩:=Option.map_eq_some_iff.1 eSize;have h8:= @run_callFunc_extern Tryz.prog 220 _ ReflectliteType.typeOf Tryz.func220 (by kernel_rfl) (by kernel_rfl) (by kernel_rfl) (by kernel_rfl);have h32:= @run_callFunc_extern Tryz.prog 362 _ entComparable Tryz.func362 (by kernel_rfl) (by kernel_rfl) (by kernel_rfl) (by kernel_rfl);have tT:=eTypeOfS;have cT:=eComparable;have mR:=eMethodComparable;have nW:=eNoIsF;have uW:=eHasUnwrapF;have mU:=eMethodUnwrap;have hun:=run_eql_iface_types (P:=Tryz.prog) 201 457 (.pointer (some ⟨p,0,none⟩)) (.pointer (some a)) Tryz.underlying24 (by decide) w;have heq:=run_eql_iface_ptr_same (P:=Tryz.prog) w a Tryz.underlying24 Tryz.underlying457 hi hcmp hj;go_enter Tryz.func144,Tryz.ntmps144;go_wp2;refine wp_loop_rounds 2 ?_;rw[rounds_succ];go_wp2;rw[rounds_succ];go_wp2;go_ret;exact ⟨rfl,rfl⟩
theorem is_fault_other(p:Nat)(a b:Addr)(ca cb:Array Value)(ta tb:TypeId)(w:World)(h1:w.cell? ⟨p,0,none⟩=some (.iface 457 (.pointer (some a))))(hne:a≠b)(ha:w.heap[a.block]? =some (.cells ca ta (0,0)))(hb:w.heap[b.block]? =some (.cells cb tb (0,0))):
 Calls Tryz.prog 144 #[.iface 201 (.pointer (some ⟨p,0,none⟩)),.iface 457 (.pointer (some b))] w fun e w'=> e= .returned (.bool false)∧w=w':=by
 obtain ⟨i,hi,hcmp⟩:=Option.map_eq_some_iff.1 eComp;obtain ⟨j,hj,hjs⟩:=Option.map_eq_some_iff.1 eSize;have h8:= @run_callFunc_extern Tryz.prog 220 _ ReflectliteType.typeOf Tryz.func220 (by kernel_rfl) (by kernel_rfl) (by kernel_rfl) (by kernel_rfl);have h32:= @run_callFunc_extern Tryz.prog 362 _ entComparable Tryz.func362 (by kernel_rfl) (by kernel_rfl) (by kernel_rfl) (by kernel_rfl);have tT:=eTypeOfS;have cT:=eComparable;have mR:=eMethodComparable;have nE:=eNoIsS;have uE:=eNoUnwrapS;have vE:=eNoUnwrapsS;have nW:=eNoIsF;have uW:=eHasUnwrapF;have mU:=eMethodUnwrap;have hun:=run_eql_iface_types (P:=Tryz.prog) 201 457 (.pointer (some ⟨p,0,none⟩)) (.pointer (some b)) Tryz.underlying24 (by decide) w;have heq:=run_eql_iface_ptr_other (P:=Tryz.prog) w Tryz.underlying24 Tryz.underlying457 hi hcmp hj (by rw[hjs];decide) hne ha hb;clear ha hb hne;go_enter Tryz.func144,Tryz.ntmps144;go_wp2;refine wp_loop_rounds 2 ?_;rw[rounds_succ];go_wp2;rw[rounds_succ];go_wp2;go_ret;exact ⟨rfl,rfl⟩
def entValueOf:Array Value→Sem Value:=fun args=> ReflectliteValue.unpack (args.getD 0 (.tuple #[]))
def entType:Array Value→Sem Value:=ReflectliteValue.methodAny (ReflectliteValue.valueError "reflectlite.Value.Type" 0) (fun t _ _ _=> ReflectliteType.toType t)
def entIsNil:Array Value→Sem Value:=ReflectliteValue.method (ReflectliteValue.valueError "reflectlite.Value.IsNil" 0) ReflectliteValue.isNil
def entElemV:Array Value→Sem Value:=ReflectliteValue.method (ReflectliteValue.valueError "reflectlite.Value.Elem" 0) ReflectliteValue.elem
def entKind:Array Value→Sem Value:=ReflectliteType.abiMethod fun t=> do pure (.int .u8 (←Rtype.kind t))
def entElem:Array Value→Sem Value:=ReflectliteType.method ReflectliteType.elem
def entImplements:Array Value→Sem Value:=ReflectliteType.relation "Implements" ReflectliteType.implements_
def entAssignable:Array Value→Sem Value:=ReflectliteType.relation "AssignableTo" ReflectliteType.assignableTo
def entSet:Array Value→Sem Value:=ReflectliteValue.set
theorem aValueOfT(t:Addr)(w:World):(entValueOf #[.iface 203 (.pointer (some t))]).run Tryz.prog w
 = .ok (.agg #[.pointer (some ⟨25,203,none⟩),.pointer (some ⟨w.heap.size,0,none⟩),.int .u64 150]) (w.alloc (.cells #[.pointer (some t)] 203)):=by kernel_rfl
theorem aTypeT(a:Addr)(w:World):(entType #[.agg #[.pointer (some ⟨25,203,none⟩),.pointer (some a),.int .u64 150]]).run Tryz.prog w
 = .ok (.iface 388 (.agg #[.pointer (some ⟨25,203,none⟩)])) w:=by kernel_rfl
theorem aMethodKind(h:Value)(w:World):(Go.method 586 388 (.agg #[h]) "Kind").run Tryz.prog w= .ok (350,h) w:=by kernel_rfl
theorem aKindT(w:World):(entKind #[.pointer (some ⟨25,203,none⟩)]).run Tryz.prog w= .ok (.int .u8 22) w:=by kernel_rfl
theorem aKindF(w:World):(entKind #[.pointer (some ⟨25,201,none⟩)]).run Tryz.prog w= .ok (.int .u8 22) w:=by kernel_rfl
theorem aRlm(z:Sem Value)(f:TypeId→Addr→Nat→Nat→Sem Value)(v:Value):
 ReflectliteValue.method z f #[v]=(do match←ReflectliteValue.parts v with | none=> z | some (t,a,fl)=> f t a fl (fl % 32)):=rfl
theorem aPartsT(a:Addr)(w:World):(ReflectliteValue.parts (.agg #[.pointer (some ⟨25,203,none⟩),.pointer (some a),.int .u64 150])).run Tryz.prog w= .ok (some (203,a,150)) w:=by kernel_rfl
theorem aIsNilT(a p:Addr)(W:World)(ha:W.cell? a=some (.pointer (some p))):
 (entIsNil #[.agg #[.pointer (some ⟨25,203,none⟩),.pointer (some a),.int .u64 150]]).run Tryz.prog W= .ok (.bool false) W:=by
 rw[entIsNil,aRlm];simp only[Sem.run_bind,aPartsT,Result.andThen];simp[ReflectliteValue.isNil,loadVar,isAgg,underlying,Tryz.underlying203,ha,Result.andThen]
theorem aMethodElem(h:Value)(w:World):(Go.method 586 388 (.agg #[h]) "Elem").run Tryz.prog w= .ok (363,.agg #[h]) w:=by kernel_rfl
theorem aMethodImplements(h:Value)(w:World):(Go.method 586 388 (.agg #[h]) "Implements").run Tryz.prog w= .ok (364,.agg #[h]) w:=by kernel_rfl
theorem aMethodAssignable(h:Value)(w:World):(Go.method 586 388 (.agg #[h]) "AssignableTo").run Tryz.prog w= .ok (361,.agg #[h]) w:=by kernel_rfl
theorem aElemT(w:World):(entElem #[.agg #[.pointer (some ⟨25,203,none⟩)]]).run Tryz.prog w= .ok (.iface 388 (.agg #[.pointer (some ⟨25,201,none⟩)])) w:=by kernel_rfl
theorem aImplementsF(w:World):(entImplements #[.agg #[.pointer (some ⟨25,201,none⟩)],.iface 388 (.agg #[.pointer (some ⟨25,24,none⟩)])]).run Tryz.prog w= .ok (.bool true) w:=by kernel_rfl
theorem aAssignFF(w:World):(entAssignable #[.agg #[.pointer (some ⟨25,201,none⟩)],.iface 388 (.agg #[.pointer (some ⟨25,201,none⟩)])]).run Tryz.prog w= .ok (.bool true) w:=by kernel_rfl
theorem aAssignSF(w:World):(entAssignable #[.agg #[.pointer (some ⟨25,457,none⟩)],.iface 388 (.agg #[.pointer (some ⟨25,201,none⟩)])]).run Tryz.prog w= .ok (.bool false) w:=by kernel_rfl
theorem aValueOfF(e:Addr)(w:World):(entValueOf #[.iface 201 (.pointer (some e))]).run Tryz.prog w
 = .ok (.agg #[.pointer (some ⟨25,201,none⟩),.pointer (some ⟨w.heap.size,0,none⟩),.int .u64 150]) (w.alloc (.cells #[.pointer (some e)] 201)):=by kernel_rfl
theorem aElemOfT(w:World):(Rtype.elem? 203).run Tryz.prog w= .ok (some 201) w:=by kernel_rfl
theorem aMkF(p:Addr)(w:World):(ReflectliteValue.mk 201 p ReflectliteValue.flagAddr).run Tryz.prog w= .ok (.agg #[.pointer (some ⟨25,201,none⟩),.pointer (some p),.int .u64 406]) w:=by kernel_rfl
theorem aElemVT(a p:Addr)(W:World)(ha:W.cell? a=some (.pointer (some p))):
 (entElemV #[.agg #[.pointer (some ⟨25,203,none⟩),.pointer (some a),.int .u64 150]]).run Tryz.prog W
  = .ok (.agg #[.pointer (some ⟨25,201,none⟩),.pointer (some p),.int .u64 406]) W:=by
 rw[entElemV,aRlm];simp only[Sem.run_bind,aPartsT,Result.andThen];simp[ReflectliteValue.elem,loadVar,isAgg,underlying,Tryz.underlying203,ha,Result.andThen,aElemOfT,aMkF]
theorem aRls(v x:Value):ReflectliteValue.set #[v,x]=(do
 let (some (dst,a,fl),some (src,b,_)):=(←ReflectliteValue.parts v,←ReflectliteValue.parts x)
  | unsupported (.noEntry "extern/(internal/reflectlite.Value).Set.zeroValue")
 if fl / ReflectliteValue.flagAddr % 2==0 then unsupported (.noEntry "extern/(internal/reflectlite.Value).Set.unaddressable")
 let val←loadVar src b
 if←Rtype.directlyAssignable dst src then storeVar dst a val
 else if←Rtype.implements dst src then
  if (←Rtype.kind src)==20 then
   match val with
   | .nilIface=> unsupported (.noEntry "extern/reflectlite: a nil value of one interface type handed on as a value of another")
   | _=> storeVar dst a val
  else storeVar dst a (.iface src val)
 else panicString ("reflectlite.Set: value of type " ++(←Rtype.spelt src)++ " is not assignable to type " ++(←Rtype.spelt dst))
 pure (.tuple #[])):=rfl
theorem aPartsFa(a:Addr)(w:World):(ReflectliteValue.parts (.agg #[.pointer (some ⟨25,201,none⟩),.pointer (some a),.int .u64 406])).run Tryz.prog w= .ok (some (201,a,406)) w:=by kernel_rfl
theorem aPartsF(a:Addr)(w:World):(ReflectliteValue.parts (.agg #[.pointer (some ⟨25,201,none⟩),.pointer (some a),.int .u64 150])).run Tryz.prog w= .ok (some (201,a,150)) w:=by kernel_rfl
theorem aDirectF(w:World):(Rtype.directlyAssignable 201 201).run Tryz.prog w= .ok true w:=by kernel_rfl
theorem aSetF(ta b e:Addr)(old:Value)(W:World)(hb:W.cell? b=some (.pointer (some e)))(ht:W.cell? ta=some old)(hf:W.frozen? ta=false):
 (entSet #[.agg #[.pointer (some ⟨25,201,none⟩),.pointer (some ta),.int .u64 406],.agg #[.pointer (some ⟨25,201,none⟩),.pointer (some b),.int .u64 150]]).run Tryz.prog W
  = .ok (.tuple #[]) (W.setCell ta (.pointer (some e))):=by
 rw[entSet,aRls];simp only[Sem.run_bind,aPartsFa,aPartsF,Result.andThen];simp[ReflectliteValue.flagAddr,loadVar,isAgg,underlying,Tryz.underlying201,hb,Result.andThen,aDirectF,storeVar,Value.cells,storeCells,Addr.add];rw[run_store Tryz.prog W ta _ _ (by rfl)];simp[ht,hf]
theorem as_nil(t:Value)(w:World):
 Calls Tryz.prog 151 #[.nilIface,t] w fun e w'=> e= .returned (.bool false)∧w=w':=by
 go_enter Tryz.func151,Tryz.ntmps151;go_wp2;go_ret;exact ⟨rfl,rfl⟩
theorem as_hit(e t:Addr)(old:Value)(w:World)(hg:w.cell? ⟨16,0,none⟩=some (.iface 388 (.agg #[.pointer (some ⟨25,24,none⟩)])))(ht0:w.cell? t=some old)(hf0:w.frozen? t=false):
 Calls Tryz.prog 151 #[.iface 201 (.pointer (some e)),.iface 203 (.pointer (some t))] w fun ev w'=> ev= .returned (.bool true)∧
  w'=((((w.alloc (.cells #[.pointer (some t)] 203)).alloc (.cells #[.pointer (some ⟨25,203,none⟩),.pointer (some ⟨w.heap.size,0,none⟩),.int .u64 150] 348)).alloc (.cells #[.pointer (some ⟨25,203,none⟩),.pointer (some ⟨w.heap.size,0,none⟩),.int .u64 150] 348)).alloc (.cells #[.pointer (some e)] 201)).setCell t (.pointer (some e)):=by
 have h6:= @run_callFunc_extern Tryz.prog 225 _ entValueOf Tryz.func225 (by kernel_rfl) (by kernel_rfl) (by kernel_rfl) (by kernel_rfl);have h7:= @run_callFunc_extern Tryz.prog 226 _ entType Tryz.func226 (by kernel_rfl) (by kernel_rfl) (by kernel_rfl) (by kernel_rfl);have h8:= @run_callFunc_extern Tryz.prog 227 _ entIsNil Tryz.func227 (by kernel_rfl) (by kernel_rfl) (by kernel_rfl) (by kernel_rfl);have h27:= @run_callFunc_extern Tryz.prog 350 _ entKind Tryz.func350 (by kernel_rfl) (by kernel_rfl) (by kernel_rfl) (by kernel_rfl);have h37:= @run_callFunc_extern Tryz.prog 363 _ entElem Tryz.func363 (by kernel_rfl) (by kernel_rfl) (by kernel_rfl) (by kernel_rfl);have h38:= @run_callFunc_extern Tryz.prog 364 _ entImplements Tryz.func364 (by kernel_rfl) (by kernel_rfl) (by kernel_rfl) (by kernel_rfl);have h10:= @run_callFunc_extern Tryz.prog 220 _ ReflectliteType.typeOf Tryz.func220 (by kernel_rfl) (by kernel_rfl) (by kernel_rfl) (by kernel_rfl);have h35:= @run_callFunc_extern Tryz.prog 361 _ entAssignable Tryz.func361 (by kernel_rfl) (by kernel_rfl) (by kernel_rfl) (by kernel_rfl);have h11:= @run_callFunc_extern Tryz.prog 271 _ entElemV Tryz.func271 (by kernel_rfl) (by kernel_rfl) (by kernel_rfl) (by kernel_rfl);have h12:= @run_callFunc_extern Tryz.prog 272 _ entSet Tryz.func272 (by kernel_rfl) (by kernel_rfl) (by kernel_rfl) (by kernel_rfl);have tO:=eTypeOfF;have mA:=aMethodAssignable;have a25:=aAssignFF;have v25:=aValueOfF;have f6:=aValueOfT;have f7:=aTypeT;have mK:=aMethodKind;have mE:=aMethodElem;have mI:=aMethodImplements;have k27:=aKindT;have k25:=aKindF;have e27:=aElemT;have i25:=aImplementsF;have n8:=aIsNilT ⟨w.heap.size,0,none⟩ t ((w.alloc (.cells #[.pointer (some t)] 203)).alloc (.cells #[.pointer (some ⟨25,203,none⟩),.pointer (some ⟨w.heap.size,0,none⟩),.int .u64 150] 348)) (by simp);have hlt:16 < w.heap.size:=lt_of_cell hg;have hg2:((w.alloc (.cells #[.pointer (some t)] 203)).alloc (.cells #[.pointer (some ⟨25,203,none⟩),.pointer (some ⟨w.heap.size,0,none⟩),.int .u64 150] 348)).cell? ⟨16,0,none⟩=some (.iface 388 (.agg #[.pointer (some ⟨25,24,none⟩)])):=by rw[World.cell?_alloc_lt _ _ ⟨16,0,none⟩ (by simp;omega),World.cell?_alloc_lt _ _ ⟨16,0,none⟩ hlt];exact hg
 have htl:t.block < w.heap.size:=lt_of_cell ht0;have el:=aElemVT ⟨w.heap.size,0,none⟩ t (((w.alloc (.cells #[.pointer (some t)] 203)).alloc (.cells #[.pointer (some ⟨25,203,none⟩),.pointer (some ⟨w.heap.size,0,none⟩),.int .u64 150] 348)).alloc (.cells #[.pointer (some ⟨25,203,none⟩),.pointer (some ⟨w.heap.size,0,none⟩),.int .u64 150] 348)) (by rw[World.cell?_alloc_lt _ _ ⟨w.heap.size,0,none⟩ (by simp;omega)];simp);have st:=aSetF t ⟨w.heap.size+1+1+1,0,none⟩ e old ((((w.alloc (.cells #[.pointer (some t)] 203)).alloc (.cells #[.pointer (some ⟨25,203,none⟩),.pointer (some ⟨w.heap.size,0,none⟩),.int .u64 150] 348)).alloc (.cells #[.pointer (some ⟨25,203,none⟩),.pointer (some ⟨w.heap.size,0,none⟩),.int .u64 150] 348)).alloc (.cells #[.pointer (some e)] 201))
  (by rw[World.cell?_alloc_at _ _ _ _ (by simp)];rfl)
  (by rw[World.cell?_alloc_lt _ _ t (by simp;omega),World.cell?_alloc_lt _ _ t (by simp;omega),World.cell?_alloc_lt _ _ t (by simp;omega),World.cell?_alloc_lt _ _ t htl];exact ht0)
  (by rw[World.frozen?_alloc_old _ _ t (by simp;omega),World.frozen?_alloc_old _ _ t (by simp;omega),World.frozen?_alloc_old _ _ t (by simp;omega),World.frozen?_alloc_old _ _ t (Nat.ne_of_lt htl)];exact hf0)
 go_enter Tryz.func151,Tryz.ntmps151;go_wp2;refine wp_loop_rounds 1 ?_;rw[rounds_succ];go_wp2;go_ret;exact ⟨rfl,rfl⟩
theorem as_miss(e t:Addr)(old:Value)(w:World)(hg:w.cell? ⟨16,0,none⟩=some (.iface 388 (.agg #[.pointer (some ⟨25,24,none⟩)])))(_ht0:w.cell? t=some old):
 Calls Tryz.prog 151 #[.iface 457 (.pointer (some e)),.iface 203 (.pointer (some t))] w fun ev w'=> ev= .returned (.bool false)∧Ext w w':=by
 have h6:= @run_callFunc_extern Tryz.prog 225 _ entValueOf Tryz.func225 (by kernel_rfl) (by kernel_rfl) (by kernel_rfl) (by kernel_rfl);have h7:= @run_callFunc_extern Tryz.prog 226 _ entType Tryz.func226 (by kernel_rfl) (by kernel_rfl) (by kernel_rfl) (by kernel_rfl);have h8:= @run_callFunc_extern Tryz.prog 227 _ entIsNil Tryz.func227 (by kernel_rfl) (by kernel_rfl) (by kernel_rfl) (by kernel_rfl);have h27:= @run_callFunc_extern Tryz.prog 350 _ entKind Tryz.func350 (by kernel_rfl) (by kernel_rfl) (by kernel_rfl) (by kernel_rfl);have h37:= @run_callFunc_extern Tryz.prog 363 _ entElem Tryz.func363 (by kernel_rfl) (by kernel_rfl) (by kernel_rfl) (by kernel_rfl);have h38:= @run_callFunc_extern Tryz.prog 364 _ entImplements Tryz.func364 (by kernel_rfl) (by kernel_rfl) (by kernel_rfl) (by kernel_rfl);have h10:= @run_callFunc_extern Tryz.prog 220 _ ReflectliteType.typeOf Tryz.func220 (by kernel_rfl) (by kernel_rfl) (by kernel_rfl) (by kernel_rfl);have h35:= @run_callFunc_extern Tryz.prog 361 _ entAssignable Tryz.func361 (by kernel_rfl) (by kernel_rfl) (by kernel_rfl) (by kernel_rfl);have tO:=eTypeOfS;have mA:=aMethodAssignable;have a25:=aAssignSF;have f6:=aValueOfT;have f7:=aTypeT;have mK:=aMethodKind;have mE:=aMethodElem;have mI:=aMethodImplements;have k27:=aKindT;have k25:=aKindF;have e27:=aElemT;have i25:=aImplementsF;have nA:=eNoAsS;have uE:=eNoUnwrapS;have vE:=eNoUnwrapsS;have n8:=aIsNilT ⟨w.heap.size,0,none⟩ t ((w.alloc (.cells #[.pointer (some t)] 203)).alloc (.cells #[.pointer (some ⟨25,203,none⟩),.pointer (some ⟨w.heap.size,0,none⟩),.int .u64 150] 348)) (by simp);have hlt:16 < w.heap.size:=lt_of_cell hg;have hg2:((w.alloc (.cells #[.pointer (some t)] 203)).alloc (.cells #[.pointer (some ⟨25,203,none⟩),.pointer (some ⟨w.heap.size,0,none⟩),.int .u64 150] 348)).cell? ⟨16,0,none⟩=some (.iface 388 (.agg #[.pointer (some ⟨25,24,none⟩)])):=by rw[World.cell?_alloc_lt _ _ ⟨16,0,none⟩ (by simp;omega),World.cell?_alloc_lt _ _ ⟨16,0,none⟩ hlt];exact hg
 go_enter Tryz.func151,Tryz.ntmps151;go_wp2;refine wp_loop_rounds 1 ?_;rw[rounds_succ];go_wp2;go_ret;exact ⟨rfl,(((Upd.refl _ _).alloc _).alloc _).alloc _⟩
end Go.Proofs.YtjnjpgdoncbahaaGreatDoor
