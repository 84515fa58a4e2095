/- One hash of a row of hashes, its cells. -/
import Derived.Test.YtnkcfkjeeennmaaGreatDoorNTree
namespace Go.Proofs.YtnkcfkjeeennmaaGreatDoor
open Go.RowKit Go.Lib Go.Sort
theorem hcells_at:∀{hs:List HB} {j:Nat} {h:HB},hs[j]? =some h→H32 hs→∀t u,(h.map u8v)[t]? =some u→t < 32→(hcells hs)[j*32+t]? =some u
 | [],j,h,hj,H,t,u,hu,ht=> by cases hj
 | x::hs,0,h,hj,H,t,u,hu,ht=> by
  cases hj
  have e:hcells (x::hs)=x.map u8v++hcells hs:=by simp[hcells]
  rw[e,Nat.zero_mul,Nat.zero_add,List.getElem?_append_left (by rw[List.length_map,H x List.mem_cons_self];exact ht)];exact hu
 | x::hs,j+1,h,hj,H,t,u,hu,ht=> by
  have e:hcells (x::hs)=x.map u8v++hcells hs:=by simp[hcells]
  have hx:=H x List.mem_cons_self;rw[e,List.getElem?_append_right (by rw[List.length_map,hx];omega),List.length_map,hx,show (j+1)*32+t - 32=j*32+t by omega];exact hcells_at (by simpa using hj) (fun y hy=> H y (List.mem_cons_of_mem _ hy)) t u hu ht
end Go.Proofs.YtnkcfkjeeennmaaGreatDoor
