/- The statements' does of chapter 12 by a contract: any call. -/
import Derived.Test.YtdkhnkhflbefbaaGreatDoorDoes2
namespace Go.Proofs.YtdkhnkhflbefbaaGreatDoor
open Go.RowKit Go.Lib Go.Sort

/-- A call as data. -/
structure OpD where
  k : Int
  nm : ByteArray
  tx : ByteArray
  a : Option Addr
  zs : List Int
  cap : Nat
  c : Int
def opCells (o : OpD) : List Value := [.int .i64 o.k, .string o.nm, .string o.tx, .slice o.a o.zs.length o.cap, .int .i64 o.c]
structure OpD.Ok (w : World) (o : OpD) : Prop where
  nm : o.nm.size ≤ maxLen
  tx : o.tx.size ≤ maxLen
  zs : o.zs.length ≤ 1099511627776
  at' : RdsAt w o.a o.zs
def stepD (x : StD) (o : OpD) : StD := x.does o.k o.nm o.tx o.zs o.c
theorem does_any {B : Nat} {se : Nat → Addr} {w0 w : World} (G : Genv B se w0) (E : Ext w0 w) {sb mb rb kb N : Nat} {tv av rtv btv : Value} {x : StD} {L : List HeldD} {C : Nat → List Value} (D : Duo w0.heap.size w sb mb rb tv av rtv x) (K : BkAt w0.heap.size w kb btv L C N)
    (hF : x.Few 4194303) (hN : N ≤ 4000000) (o : OpD) (ho : o.Ok w0) :
    Calls Tryz.prog 11 #[.pointer (some ⟨sb, 0, none⟩), .pointer (some ⟨rb, 0, none⟩), .agg (opCells o).toArray, .pointer (some ⟨kb, 0, none⟩)] w (DoesPost w0 sb mb rb kb N tv av rtv btv L w (stepD x o)) := by
  obtain ⟨k, nm, tx, a, zs, cap, c⟩ := o
  unfold stepD StD.does
  by_cases h1 : k = 1
  · subst h1
    exact does_put G E D K hF nm tx ho.nm ho.tx a zs.length cap c
  · by_cases h2 : k = 2
    · subst h2
      exact does_get G E D K hF nm tx ho.nm a zs.length cap c
    · by_cases h3 : k = 3
      · subst h3
        exact does_restart G E D K hF nm tx a zs ho.at' ho.zs cap c
      · simp only [if_neg h1, if_neg h2, if_neg h3]
        exact does_stands (B := B) (se := se) E D K hF hN k h1 h2 h3 nm tx a zs.length cap c
end Go.Proofs.YtdkhnkhflbefbaaGreatDoor
