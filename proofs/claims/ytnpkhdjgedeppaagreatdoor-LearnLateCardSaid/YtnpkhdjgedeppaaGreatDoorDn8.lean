import Derived.Test.YtnpkhdjgedeppaaGreatDoorDn7
import Derived.Test.YtnpkhdjgedeppaaGreatDoorBr4
namespace Go.Am
theorem qCk (a m:Nat) (h:OfNat.ofNat m≤a):((a:Int) - (no_index (OfNat.ofNat m:Int)))=((a - (OfNat.ofNat m):Nat):Int):=by
 have:(OfNat.ofNat m:Int)=((OfNat.ofNat m:Nat):Int):=rfl
 rw [this];omega
theorem qqA (l:List UInt8):(l.map qab).flatten=l.map w8:=by
 induction l with
 | nil=>rfl
 | cons x l ih=>simp only [List.map_cons,List.flatten_cons,ih];rfl
attribute [go_sem] qCk qqA
section
variable (C:Cf) (ops:Array Oper) (f:Nat→AVal) (H:qac) (s:St)
theorem qFa (o l m K):rN C ops (List.append (o::l) m) ⟨f,H⟩ K=@qaQ f H ⟨(C,ops,o,fun s' _ _=>rN C ops (List.append l m) s' K)⟩:=qss C ops f H o _ K
theorem qCl (m K):rN C ops (List.append [] m) s K=rN C ops m s K:=rfl
theorem qCm (m tr K):rD C ops (List.append [] m) s tr K=rD C ops m s tr K:=rfl
theorem qFb (o l m):gd ⟨List.append (o::l) m⟩ 0=o.dst:=rfl
theorem qCn (o l m n):gd ⟨List.append (o::l) m⟩ (n+1)=gd ⟨List.append l m⟩ n:=qru o _ n
theorem qCo (m n):gd ⟨List.append [] m⟩ n=gd ⟨m⟩ n:=rfl
end
attribute [go_sem ↓] qFa qCl qCm qFb qCn qCo
end Go.Am
