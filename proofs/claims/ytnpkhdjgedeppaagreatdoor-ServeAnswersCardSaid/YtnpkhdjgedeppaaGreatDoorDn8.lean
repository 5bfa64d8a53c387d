import Derived.Test.YtnpkhdjgedeppaaGreatDoorDn7
import Derived.Test.YtnpkhdjgedeppaaGreatDoorBr4
namespace Go.Am
theorem qAC (a m:Nat) (h:OfNat.ofNat m≤a):((a:Int) - (no_index (OfNat.ofNat m:Int)))=((a - (OfNat.ofNat m):Nat):Int):=by
 have:(OfNat.ofNat m:Int)=((OfNat.ofNat m:Nat):Int):=rfl
 rw [this];omega
theorem qpE (l:List UInt8):(l.map qab).flatten=l.map w8:=by
 induction l with
 | nil=>rfl
 | cons x l ih=>simp only [List.map_cons,List.flatten_cons,ih];rfl
attribute [go_sem] qAC qpE
section
variable (C:Cf) (ops:Array Oper) (f:Nat→AVal) (H:qac) (s:St)
theorem qC7 (o l m K):rN C ops (List.append (o::l) m) ⟨f,H⟩ K=@qaO f H ⟨(C,ops,o,fun s' _ _=>rN C ops (List.append l m) s' K)⟩:=qrk C ops f H o _ K
theorem qAD (m K):rN C ops (List.append [] m) s K=rN C ops m s K:=rfl
theorem qAE (m tr K):rD C ops (List.append [] m) s tr K=rD C ops m s tr K:=rfl
theorem qC8 (o l m):gd ⟨List.append (o::l) m⟩ 0=o.dst:=rfl
theorem qAF (o l m n):gd ⟨List.append (o::l) m⟩ (n+1)=gd ⟨List.append l m⟩ n:=qqk o _ n
theorem qAG (m n):gd ⟨List.append [] m⟩ n=gd ⟨m⟩ n:=rfl
end
attribute [go_sem ↓] qC7 qAD qAE qC8 qAF qAG
end Go.Am
