/- Bytes that are taken block by block: plain mathematics. -/
namespace Go.Proofs.YtnkcfkjeeennmaaGreatDoor
section
variable (F:List Int→List UInt8→List Int)
def absorb(h:List Int)(bs:List UInt8):List Int:=if 64≤bs.length then absorb (F h (bs.take 64)) (bs.drop 64) else h
termination_by bs.length
decreasing_by rw[List.length_drop];omega
def restB(bs:List UInt8):List UInt8:=bs.drop (64*(bs.length / 64))
theorem absorb_ge{h:List Int}{bs:List UInt8}(hl:64≤bs.length):absorb F h bs=absorb F (F h (bs.take 64)) (bs.drop 64):=by rw[absorb,if_pos hl]
theorem absorb_lt{h:List Int}{bs:List UInt8}(hl:bs.length < 64):absorb F h bs=h:=by rw[absorb,if_neg (by omega)]
theorem absorb_app:∀(m:Nat) (h:List Int) (a b:List UInt8),a.length=64*m→absorb F h (a++b)=absorb F (absorb F h a) b:=by
 intro m;induction m with
 | zero=>
  intro h a b ha;have:a= []:=List.length_eq_zero_iff.1 (by omega);subst this;rw[List.nil_append,absorb_lt F (bs:= []) (by simp)]
 | succ m ih=>
  intro h a b ha;rw[absorb_ge F (bs:=a++b) (by simp;omega),absorb_ge F (bs:=a) (by omega),List.take_append_of_le_length (by omega),List.drop_append_of_le_length (by omega)];exact ih _ _ _ (by rw[List.length_drop];omega)
theorem restB_small{bs:List UInt8}(h:bs.length < 64):restB bs=bs:=by unfold restB;rw[Nat.div_eq_of_lt h];simp
theorem restB_ge{bs:List UInt8}(h:64≤bs.length):restB bs=restB (bs.drop 64):=by unfold restB;rw[List.drop_drop,List.length_drop];congr 1;omega
theorem restB_len(bs:List UInt8):(restB bs).length=bs.length % 64:=by unfold restB;rw[List.length_drop];omega
theorem absorb_rest(h:List Int)(bs x:List UInt8):absorb F h (bs++x)=absorb F (absorb F h bs) (restB bs++x):=by
 have e:bs=bs.take (64*(bs.length / 64))++restB bs:=by unfold restB;rw[List.take_append_drop]
 have hl:(bs.take (64*(bs.length / 64))).length=64*(bs.length / 64):=by rw[List.length_take];omega
 have h1:absorb F h bs=absorb F h (bs.take (64*(bs.length / 64))):=by
  conv=> lhs;rw[e]
  rw[absorb_app F _ _ _ _ hl,absorb_lt F (by rw[restB_len];omega)]
 conv=> lhs;rw[e,List.append_assoc]
 rw[absorb_app F _ _ _ _ hl,h1]
theorem restB_rest(bs x:List UInt8):restB (bs++x)=restB (restB bs++x):=by
 have e:bs=bs.take (64*(bs.length / 64))++restB bs:=by unfold restB;rw[List.take_append_drop]
 have hl:(bs.take (64*(bs.length / 64))).length=64*(bs.length / 64):=by rw[List.length_take];omega
 have hg:∀(m:Nat) (a b:List UInt8),a.length=64*m→restB (a++b)=restB b:=by
  intro m;induction m with
  | zero=>
   intro a b ha;have:a= []:=List.length_eq_zero_iff.1 (by omega);subst this;rfl
  | succ m ih=>
   intro a b ha;rw[restB_ge (by simp;omega),List.drop_append_of_le_length (by omega)];exact ih _ _ (by rw[List.length_drop];omega)
 conv=> lhs;rw[e,List.append_assoc]
 exact hg _ _ _ hl
end
end Go.Proofs.YtnkcfkjeeennmaaGreatDoor
