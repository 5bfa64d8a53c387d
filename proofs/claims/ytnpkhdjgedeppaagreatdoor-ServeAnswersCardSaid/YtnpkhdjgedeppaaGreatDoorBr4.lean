import Derived.Test.YtnpkhdjgedeppaaGreatDoorBr3
import Derived.Test.YtnpkhdjgedeppaaGreatDoorDn6
import Derived.Lib.LaidTab
import Derived.Lib.LaidU8
import Derived.Below
import Derived.Shelf.Vars
namespace Go.Am
open Go.RowKit
abbrev qGN:=List (Nat×String×IntKind×List Int)
def qyU (k:IntKind) (zs:List Int):List AVal:=zs.map (.int k)
def qyV (ts:qGN):Nat→Option (List AVal):=fun g=>(ts.find? fun t=>t.1 == g).map fun t=>qyU t.2.2.1 t.2.2.2
theorem qhP {S:Nat→Prop} {w:World} {g:Nat} {k:IntKind} {arr:Array Value} {e:TypeId} {fz:Nat×Nat} (h:w.heap[g]?=some (.cells arr e fz)):∀(zs:List Int) (off:Nat),arr.toList.drop off=zs.map (Value.int k)→qaP S w g off (qyU k zs)
 | [],_,_=>trivial
 | z::zs,off,hd=>by
  simp only [qyU,List.map_cons,qaP]
  have h0:arr.toList[off]?=some (.int k z):=by
   have:=congrArg (·[0]?) hd
   simpa [List.getElem?_drop]using this
  refine ⟨⟨_,?_,rfl⟩,qhP h zs (off+1) ?_⟩
  ·simp only [World.cell?,h]
   rw [←Array.getElem?_toList];exact h0
  ·have:=congrArg List.tail hd
   simpa using this
theorem qlx {P:Program} {W:World} {ts:qGN} (hg:∀t∈ts,P.globalNamed t.2.1=some t.1) (h:∀t∈ts,Lib.TabIs P W t.2.1 t.2.2.1 t.2.2.2):qdx (qyV ts) (fun b=>b<W.heap.size) W:=by
 intro g cs hc
 unfold qyV at hc
 rw [Option.map_eq_some_iff]at hc
 obtain ⟨t,ht,rfl⟩:=hc
 have h1:=List.find?_some ht
 have h2:=List.mem_of_find?_eq_some ht
 simp only [beq_iff_eq]at h1
 subst h1
 have h3:=h t h2
 unfold Lib.TabIs World.var? at h3
 rw [hg t h2,Option.bind_some]at h3
 split at h3
 ·rename_i arr e fz hh
  simp only [Option.some.injEq]at h3
  refine ⟨?_,qhP hh _ 0 (by simp [h3]),arr,e,fz,hh,by simp [h3,qyU],fun hj=>?_⟩
  rotate_left
  ·exfalso
   unfold qyU at hj
   cases hz:t.2.2.2 with
   | nil=>rw [hz]at hj;cases hj
   | cons z zs=>rw [hz]at hj;cases hj
  rcases Nat.lt_or_ge t.1 W.heap.size with h' | h'
  ·exact h'
  ·simp [Array.getElem?_eq_none h']at hh
 ·cases h3
theorem qhn {P:Program} {W:World} {name:String} {k:IntKind} {zs:List Int} {g:Nat} {t e:TypeId} {n:Nat}
  (hg:P.globalNamed name=some g) (hty:(P.globals[g]?).map (·.type)=some t) (ht:P.underlying t=some (.array n e)) (he:P.underlying e=some (.int k)) (hce:P.cellsOf e=1) (hct:P.cellsOf t=n)
  (h:Lib.VarReads P W name (Lib.tabData k zs)):Lib.TabIs P W name k zs:=by
 obtain ⟨g',t',cs,fuel,p,hg',ht',hvar,hd⟩:=h
 obtain rfl:=Option.some.inj (hg.symm.trans hg')
 obtain rfl:=Option.some.inj (hty.symm.trans ht')
 unfold Lib.TabIs
 rw [hvar,←Lib.cells_of_tab ht he hce hct hd]
end Go.Am
