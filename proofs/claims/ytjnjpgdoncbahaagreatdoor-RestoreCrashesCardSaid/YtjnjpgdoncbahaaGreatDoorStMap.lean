/- A map of texts by names as a plain list of names with their texts: what lies in memory; look-up, store, length. -/
import Derived.Test.YtjnjpgdoncbahaaGreatDoorBase
import Derived.Maps.RangeWalk
import Derived.Maps.OwnSet
import Derived.Sort.KeysCollected
namespace Go.Proofs.YtjnjpgdoncbahaaGreatDoor
open Go.RowKit Go.Lib Go.Maps Go.WideMaps
variable {D:DataW Unit}{P:Program}{b mb n:Nat}{k:TypeId}{v:Value}
abbrev TxtL:=List (ByteArray×ByteArray)
def lookL:TxtL→ByteArray→Option ByteArray
 | [],_=> none
 | p::L,s=> if p.1=s then some p.2 else lookL L s
def putL:TxtL→ByteArray→ByteArray→TxtL
 | [],k,v=> [(k,v)]
 | p::L,k,v=> if p.1=k then (k,v)::L else p::putL L k v
theorem lookL_put:∀(L:TxtL) (k v s:ByteArray),lookL (putL L k v) s=if s=k then some v else lookL L s
 | [],k,v,s=> by
  unfold putL lookL lookL;by_cases h:s=k
  ·rw[if_pos h.symm,if_pos h]
  ·rw[if_neg (fun e=> h e.symm),if_neg h]
 | p::L,k,v,s=> by
  have ih:=lookL_put L k v s;unfold putL;by_cases hp:p.1=k
  ·rw[if_pos hp];unfold lookL;by_cases h:s=k
   ·rw[if_pos h.symm,if_pos h]
   ·rw[if_neg (fun e=> h e.symm),if_neg h,if_neg (fun e=> h (e.symm.trans hp))]
  ·rw[if_neg hp];unfold lookL;by_cases h:p.1=s
   ·rw[if_pos h,if_pos h,if_neg (fun e=> hp (h.trans e))]
   ·rw[if_neg h,if_neg h];exact ih
theorem putL_len:∀(L:TxtL) (k v:ByteArray),(putL L k v).length=if (lookL L k).isSome then L.length else L.length+1
 | [],k,v=> rfl
 | p::L,k,v=> by
  have ih:=putL_len L k v;unfold putL lookL;by_cases hp:p.1=k
  ·rw[if_pos hp,if_pos hp];rfl
  ·rw[if_neg hp,if_neg hp,List.length_cons,ih];split <;> rfl
theorem putL_keys:∀(L:TxtL) (k v:ByteArray),(putL L k v).map (·.1)=if (lookL L k).isSome then L.map (·.1) else L.map (·.1)++ [k]
 | [],k,v=> rfl
 | p::L,k,v=> by
  have ih:=putL_keys L k v;unfold putL lookL;by_cases hp:p.1=k
  ·rw[if_pos hp,if_pos hp,←hp];rfl
  ·rw[if_neg hp,if_neg hp,List.map_cons,ih];split <;> rfl
theorem lookL_mem:∀(L:TxtL) (s:ByteArray),(lookL L s).isSome=true↔s∈L.map (·.1)
 | [],s=> by simp[lookL]
 | p::L,s=> by
  have ih:=lookL_mem L s;unfold lookL;rw[List.map_cons,List.mem_cons];by_cases hp:p.1=s
  ·rw[if_pos hp];exact ⟨fun _=> .inl hp.symm,fun _=> rfl⟩
  ·rw[if_neg hp,ih];exact ⟨.inr,fun h=> h.resolve_left (fun e=> hp e.symm)⟩
theorem putL_nodup(L:TxtL)(k v:ByteArray)(h:(L.map (·.1)).Nodup):((putL L k v).map (·.1)).Nodup:=by
 rw[putL_keys];split
 ·exact h
 ·rename_i hn;rw[List.nodup_append];exact ⟨h,by simp,fun a ha b hb e=> hn ((lookL_mem L k).2 (by simp at hb;subst hb;subst e;exact ha))⟩
def keyLit(s:ByteArray):Lit:= .string s.data.toList
theorem keyLit_inj{a b:ByteArray}(h:keyLit a=keyLit b):a=b:=by
 have:a.data.toList=b.data.toList:=by simpa[keyLit] using h
 exact ByteArray.ext (Array.ext' this)
theorem str_keyed:Keyed Tryz.prog 9:=string_keyed Tryz.underlying9
theorem key_of(s:ByteArray)(h:s.size≤maxLen):keyOf Tryz.prog 9 (.string s)=some (keyLit s):=keyOf_string_mk Tryz.underlying9 h
theorem zero_str(w:World):(zeroValue 9).run Tryz.prog w= .ok (.string ⟨#[]⟩) w:=by kernel_rfl
theorem elS_of{s:ByteArray}(h:s.size≤maxLen):plainElem (H:=Unit) Tryz.prog 9 (.string s)=some (.lit (keyLit s),[]):=plainElem_string Tryz.underlying9 h
theorem plainS_inv{e:TypeId}(he:P.underlying e=some .string){z:DataW Unit×List MemPlace}(h:plainElem P e v=some z):∃s:ByteArray,v= .string s∧z=(.lit (keyLit s),[])∧s.size≤maxLen:=by
 unfold plainElem at h;rw[he] at h;cases v <;> simp at h
 obtain ⟨hs,rfl⟩:=h;exact ⟨_,rfl,rfl,hs⟩
theorem elS_inv{z:DataW Unit×List MemPlace}(h:plainElem Tryz.prog 9 v=some z):∃s:ByteArray,v= .string s∧z=(.lit (keyLit s),[])∧s.size≤maxLen:=plainS_inv Tryz.underlying9 h
structure MapAt (w:World) (mb:Nat) (L:TxtL):Prop where
 ex:∃D:DataW Unit,w.ownsMap Tryz.prog 9 (plainElem Tryz.prog 9) mb L.length D∧Maps.size D=L.length∧(∀s,Maps.has D (keyLit s)=(lookL L s).isSome)∧∀s v,lookL L s=some v→∀z,D.atKey (keyLit s) z= .lit (keyLit v)
 nd:(L.map (·.1)).Nodup
theorem owns_of_blk{R:Value→Option (DataW Unit×List MemPlace)}{w w':World}(h:w.ownsMap P k R b n D)(hb:w'.heap[b]? =w.heap[b]?):w'.ownsMap P k R b n D:=by obtain ⟨es,clock,h0,F,hs,hD⟩:=h;exact ⟨es,clock,hb.trans h0,F,hs,hD⟩
theorem owns_sized{R:Value→Option (DataW Unit×List MemPlace)}{w:World}{m:Nat}(h:w.ownsMap P k R b n D)(hm:Maps.size D≤m):w.ownsMap P k R b m D:=by obtain ⟨es,clock,h0,F,hs,rfl⟩:=h;refine ⟨es,clock,h0,F,?_,rfl⟩;simpa[Maps.size,length_sorted] using hm
theorem MapAt.made(w:World):MapAt (w.alloc (.map #[] 0)) w.heap.size []:=
 ⟨⟨.map [],World.ownsMap_made w _ _ _,rfl,fun _=> rfl,fun _ _ h=> by cases h⟩,List.nodup_nil⟩
theorem MapAt.blk{w:World}{L:TxtL}(h:MapAt w mb L):∃es c,w.heap[mb]? =some (.map es c):=by obtain ⟨D,⟨es,c,hb,_⟩,_⟩:=h.ex;exact ⟨es,c,hb⟩
theorem MapAt.lt{w:World}{L:TxtL}(h:MapAt w mb L):mb < w.heap.size:=by obtain ⟨es,c,hb⟩:=h.blk;exact lt_of_blk hb
theorem MapAt.upd{w w':World}{L:TxtL}{S:Nat→Prop}(h:MapAt w mb L)(u:Upd S w w')(hS:¬S mb):MapAt w' mb L:=by obtain ⟨D,ho,h1,h2,h3⟩:=h.ex;exact ⟨⟨D,owns_of_blk ho (u.block mb h.lt hS),h1,h2,h3⟩,h.nd⟩
theorem MapAt.ext{w w':World}{L:TxtL}(h:MapAt w mb L)(u:Ext w w'):MapAt w' mb L:=h.upd u id
section
variable (w:World) {ops:Array Oper} {rest:List Oper} {o:Oper} {a:Act} {Q:Exit→Act→World→Prop}
theorem wpList_lookT(hg:o.guard=none)(m x:Operand)(hop:o.op=Op.lookup 43 m x true)(mb:Nat)(L:TxtL)(hm:a.eval m= .map (some mb))(H:MapAt w mb L)(s:ByteArray)(hs:s.size≤maxLen)(hx:a.eval x= .string s)
 (hK:wpList Tryz.prog ops Q rest (a.put o.dst (.tuple #[.string ((lookL L s).getD ⟨#[]⟩),.bool (lookL L s).isSome])) w):wpList Tryz.prog ops Q (o::rest) a w:=by
 obtain ⟨D,ho,h1,h2,h3⟩:=H.ex;refine wpList_lookup_own_ok w hg m x _ hop 9 9 str_keyed Tryz.underlying43 (plainElem Tryz.prog 9) (zero_str w) (.lit (keyLit ⟨#[]⟩)) [] (elS_of (by decide)) mb L.length D hm ho _ (keyLit s) hx (key_of s hs) fun v ps hv=> ?_;obtain ⟨t,rfl,hz,_⟩:=elS_inv hv;have e:=(Prod.mk.inj hz).1;rw[h2 s];cases hl:lookL L s with
 | none=>
  have hn:Maps.has D (keyLit s)=false:=by rw[h2 s,hl];rfl
  rw[Maps.atKey_of_not_has hn] at e;have e2:keyLit ⟨#[]⟩=keyLit t:=by simpa using e
  rw[←keyLit_inj e2];rw[hl] at hK;exact hK
 | some u=>
  rw[h3 s u hl] at e;have e2:keyLit u=keyLit t:=by simpa using e
  rw[←keyLit_inj e2];rw[hl] at hK;exact hK
theorem wpList_putT(hg:o.guard=none)(m x v:Operand)(hop:o.op=Op.mapUpdate 43 m x v)(mb:Nat)(L:TxtL)(hm:a.eval m= .map (some mb))(H:MapAt w mb L)(hroom:L.length < maxLen)(s t:ByteArray)(hs:s.size≤maxLen)(ht:t.size≤maxLen)
 (hx:a.eval x= .string s) (hv:a.eval v= .string t) (hK:∀w',MapAt w' mb (putL L s t)→Upd (one mb) w w'→wpList Tryz.prog ops Q rest (a.put o.dst undef) w'):wpList Tryz.prog ops Q (o::rest) a w:=by
 obtain ⟨D,ho,h1,h2,h3⟩:=H.ex;refine wpList_mapUpdate_own w hg m x v _ hop 9 9 str_keyed Tryz.underlying43 (plainElem Tryz.prog 9) mb L.length D hm ho hroom _ _ (keyLit s) hx hv (key_of s hs) (.lit (keyLit t)) [] (elS_of ht) fun w' ho' hg'=> ?_;have hk:WideAt.IsKeyLit (keyLit s):=by simp[WideAt.IsKeyLit,keyLit]
 have hsz:Maps.size (D.put (keyLit s) (.lit (keyLit t)))=(putL L s t).length:=by rw[Maps.size_put (ho.tidy str_keyed),h2 s,putL_len,h1]
 refine hK w' ⟨⟨_,owns_sized ho' (Nat.le_of_eq hsz),hsz,fun q=> ?_,fun q u hq z=> ?_⟩,putL_nodup L s t H.nd⟩ ((Upd.refl (one mb) w).grown hg' (fun k hk=> .inr (by cases hk;rfl)))
 ·rw[lookL_put];by_cases e:q=s
  ·subst e;rw[if_pos rfl];exact Maps.has_put_same ho.isMap hk _
  ·rw[if_neg e,Maps.has_put_other (fun h=> e (keyLit_inj h)),h2]
 ·rw[lookL_put] at hq;by_cases e:q=s
  ·subst e;rw[if_pos rfl] at hq;rw[Maps.atKey_put_same ho.isMap hk,Option.some.inj hq]
  ·rw[if_neg e] at hq;rw[Maps.atKey_put_other (fun h=> e (keyLit_inj h)),h3 q u hq]
theorem wpList_lenT(hg:o.guard=none)(m:Operand)(hop:o.op=Op.call {callee:=Callee.builtin Builtin.len,args:=#[m],argTypes:=#[43]})(mb:Nat)(L:TxtL)(hm:a.eval m= .map (some mb))(H:MapAt w mb L)
 (hK:wpList Tryz.prog ops Q rest (a.put o.dst (.int .i64 L.length)) w):wpList Tryz.prog ops Q (o::rest) a w:=by
 obtain ⟨D,ho,h1,_⟩:=H.ex;refine wpList_len_own w hg m _ hop 9 9 Tryz.underlying43 (plainElem Tryz.prog 9) mb L.length D hm ho ?_;rw[h1];exact hK
end
end Go.Proofs.YtjnjpgdoncbahaaGreatDoor
