/- Two leaves' hashes and their node's, by SHA-256: plain. Steps of a region (TyG): whatever makes a value; append onto an own row; a slice of one element. Nothing of the program. cartularyref04.turn, padded by contracts. cartularyref04.schedule, block, Sum by contracts. cartularyref04.block by contract. cartularyref04.table, start by contracts. cartularyref04.Sum by contract. cartularyref05: Leaf, Node, Empty by contracts. More hashes by SHA-256, plain: the trees of the texts a, b, c; a, x, c; and of three zero hashes. -/
import Derived.Test.YtjnjpgdoncbahaaGreatDoorShaS
import Derived.Test.YtjnjpgdoncbahaaGreatDoorTyped3
import Derived.Test.YtjnjpgdoncbahaaGreatDoorApp
import Derived.Test.YtjnjpgdoncbahaaGreatDoorAgg
import Derived.Test.YtjnjpgdoncbahaaGreatDoorCode
namespace Go.Proofs.YtjnjpgdoncbahaaGreatDoor
open Go.RowKit Go.Lib
set_option maxRecDepth 100000
theorem abs64(l:List UInt8)(h:l.length=64):abs shaStart l=blockP shaStart l:=by unfold abs;rw[absorb_ge blockP (by omega),absorb_lt blockP (by rw[List.length_drop];omega),List.take_of_length_le (by omega)]
theorem abs128(l:List UInt8)(h:l.length=128):abs shaStart l=blockP (blockP shaStart (l.take 64)) (l.drop 64):=by unfold abs;rw[absorb_ge blockP (by omega),absorb_ge blockP (by rw[List.length_drop];omega),absorb_lt blockP (by rw[List.length_drop,List.length_drop];omega),List.take_of_length_le (l:=l.drop 64) (by rw[List.length_drop];omega)]
def hA:List UInt8:= [2,42,105,121,230,218,183,170,90,228,195,229,228,95,126,151,113,18,167,230,53,147,130,13,190,193,236,115,138,36,249,60]
def hB:List UInt8:= [87,235,53,97,93,71,243,78,199,20,202,205,245,253,116,96,138,94,142,16,39,36,232,11,36,178,135,192,194,123,106,49]
def hAB:List UInt8:= [177,55,152,95,244,132,251,96,13,185,49,7,199,123,3,101,200,13,120,245,180,41,222,208,253,151,54,29,7,121,153,235]
theorem leaf_a:leafH [97]=hA:=by unfold leafH shaB;rw[abs64 _ (by decide)];decide+kernel
theorem leaf_b:leafH [98]=hB:=by unfold leafH shaB;rw[abs64 _ (by decide)];decide+kernel
theorem node_ab:nodeH (leafH [97]) (leafH [98])=hAB:=by rw[leaf_a,leaf_b];unfold nodeH shaB;rw[abs128 _ (by decide)];decide+kernel
section
variable {P:Program} {L:List Oper} {K:List Nat} {J:Nat→World→Prop} {R:Nat→World→World→Prop} {F:List (Value⊕(Value→World→Prop))} {a0:Act} {i:Nat} {o:Oper}
theorem exec_build1{a:Act}{w:World}(t e:TypeId)(y:Operand)(ho:o.op= .buildSlice t 1 #[(0,y)])(v:Value)(hy:a.eval y=v)(hu:P.underlying t=some (.slice e))
 (ie:TypeInfo) (z:Value) (hie:P.info? e=some ie) (hz:ie.zero=some z) (hs:ie.size=1) (hv:v.cells=#[v]):(execOp a.eval o).run P w= .ok (.value (.slice (some ⟨w.heap.size,0,none⟩) 1 1)) (w.alloc (.cells #[v] e)):=by
 have hr:=run_buildSlice (P:=P) w t e 1 #[(0,v)] #[v] ie z hu hie hz (by rw[hs];omega) (by rw[hs];omega) (by simp only[Instr.fill,hs,Nat.zero_mul,Nat.one_mul,hv];rw[if_neg (by simp)];have:=fold_all [v] ((Array.range 1).map (z.cells[· % z.cells.size]!)) (by simp);simpa using this)
 simp only[execOp,ho,List.map_toArray,List.map_cons,List.map_nil,hy,Sem.run_bind,hr,Result.andThen_ok];rfl
end
def hC:List UInt8:= [89,127,203,49,40,45,52,101,76,32,13,52,24,252,165,112,92,100,142,191,50,110,199,61,141,222,241,24,65,248,118,216]
def hX:List UInt8:= [60,126,155,201,48,220,147,240,31,166,153,133,239,36,45,159,158,134,31,60,83,85,170,36,206,94,244,180,184,167,12,203]
def hABC:List UInt8:= [54,100,46,115,194,84,10,177,33,227,166,191,149,69,176,162,73,130,205,131,14,177,61,60,209,157,227,206,108,2,30,193]
def hAX:List UInt8:= [110,173,155,16,71,157,108,71,221,113,127,230,233,40,192,89,87,83,176,136,247,52,146,235,9,17,196,23,152,116,78,101]
def hAXC:List UInt8:= [38,107,55,189,29,178,215,111,59,102,194,188,254,23,219,37,77,82,232,44,4,98,234,91,5,192,93,146,229,65,127,197]
def hZZ:List UInt8:= [174,7,152,208,236,174,210,183,120,237,222,191,24,240,113,165,97,197,54,88,192,94,118,206,222,204,39,202,251,219,197,119]
def hZZZ:List UInt8:= [170,6,34,43,84,78,107,116,136,62,92,62,220,252,249,150,236,123,204,57,180,111,226,54,209,88,109,172,44,50,234,32]
theorem leaf_c:leafH [99]=hC:=by unfold leafH shaB;rw[abs64 _ (by decide)];decide+kernel
theorem leaf_x:leafH [120]=hX:=by unfold leafH shaB;rw[abs64 _ (by decide)];decide+kernel
theorem node_abc:nodeH hAB hC=hABC:=by unfold nodeH shaB;rw[abs128 _ (by decide)];decide+kernel
theorem node_ax:nodeH hA hX=hAX:=by unfold nodeH shaB;rw[abs128 _ (by decide)];decide+kernel
theorem node_axc:nodeH hAX hC=hAXC:=by unfold nodeH shaB;rw[abs128 _ (by decide)];decide+kernel
theorem node_zz:nodeH (List.replicate 32 (0:UInt8)) (List.replicate 32 (0:UInt8))=hZZ:=by unfold nodeH shaB;rw[abs128 _ (by decide)];decide+kernel
theorem node_zzz:nodeH hZZ (List.replicate 32 (0:UInt8))=hZZZ:=by unfold nodeH shaB;rw[abs128 _ (by decide)];decide+kernel
theorem root_abc:nodeH (nodeH (leafH [97]) (leafH [98])) (leafH [99])=hABC:=by rw[node_ab,leaf_c,node_abc]
theorem root_axc:nodeH (nodeH (leafH [97]) (leafH [120])) (leafH [99])=hAXC:=by rw[leaf_a,leaf_x,node_ax,leaf_c,node_axc]
theorem axc_ne:hAXC≠hABC:=by decide
theorem zzz_ne:hZZZ≠hABC:=by decide
end Go.Proofs.YtjnjpgdoncbahaaGreatDoor
