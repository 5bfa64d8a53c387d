import Derived.Test.YtnpkhdjgedeppaaGreatDoorDn4
namespace Go.Am
set_option linter.unusedSectionVars false
theorem qae {β:Type} {p:Prop} [Decidable p] {a:p→Option β} {b:¬p→Option β} {r:Option β} (h1:∀h:p,a h=r) (h2:∀h:¬p,b h=r):kD p a b=r:=by
 unfold kD;split
 ·rename_i h;exact h1 h
 ·rename_i h;exact h2 h
theorem qaj {α:Type} {C:Cf} {lo:Nat} {b:Code} {Q:Exit→St→Option Res} (I:α→(Nat→AVal)→qac→Prop) (μ:α→Nat) (R:α→Option Res)
  (step:∀a f H,I a f H→(∀a' f' H',I a' f' H'→μ a'<μ a→@qdN f' H' ⟨(C,lo,b,Q)⟩=R a')→dw C lo b (qiK (fun s=>@qdN s.fr s.H ⟨(C,lo,b,Q)⟩) Q) ⟨f,H⟩=R a) :
  ∀a f H,I a f H→@qdN f H ⟨(C,lo,b,Q)⟩=R a:=by
 have key:∀n a f H,μ a<n→I a f H→@qdN f H ⟨(C,lo,b,Q)⟩=R a:=by
  intro n
  induction n with
  | zero=>intro a f H h;omega
  | succ n ih=>
   intro a f H hn hI
   rw [qdq]
   exact step a f H hI fun a' f' H' hI' hlt=>ih a' f' H' (by omega) hI'
 intro a f H hI
 exact key (μ a+1) a f H (by omega) hI
theorem qeb {C:Cf} {lo:Nat} {b:Code} {Q:Exit→St→Option Res} (n:Nat) (I:Nat→(Nat→AVal)→qac→Prop) {R:Option Res}
  (step:∀i f H,i<n→I i f H→(∀f' H',I (i+1) f' H'→@qdN f' H' ⟨(C,lo,b,Q)⟩=R)→dw C lo b (qiK (fun s=>@qdN s.fr s.H ⟨(C,lo,b,Q)⟩) Q) ⟨f,H⟩=R)
  (last:∀f H,I n f H→dw C lo b (qiK (fun s=>@qdN s.fr s.H ⟨(C,lo,b,Q)⟩) Q) ⟨f,H⟩=R)
  {f:Nat→AVal} {H:qac} (h0:I 0 f H):@qdN f H ⟨(C,lo,b,Q)⟩=R:=by
 refine qaj (fun i f H=>i≤n∧I i f H) (fun i=>n - i) (fun _=>R) ?_ 0 f H ⟨Nat.zero_le n,h0⟩
 rintro i f H ⟨hi,hI⟩ ih
 by_cases hn:i<n
 ·exact step i f H hn hI fun f' H' h=>ih (i+1) f' H' ⟨hn,h⟩ (by omega)
 ·obtain rfl:i=n:=by omega
  exact last f H hI
theorem qml (a b:Nat):((a:Int)<(b:Int))=(a<b):=by simp
theorem qmm (a b:Nat):((a:Int)≤(b:Int))=(a≤b):=by simp
theorem qsm (a b:Nat):((a:Int)=(b:Int))=(a=b):=by simp [Int.ofNat_inj]
theorem qwd (a b:Nat):((a:Int)+(b:Int))=((a+b:Nat):Int):=by rw [Int.natCast_add]
theorem qCR (k n:Nat):((no_index (OfNat.ofNat k:Int))<(n:Int))=(OfNat.ofNat k<n):=qml k n
theorem qCS (k n:Nat):((no_index (OfNat.ofNat k:Int))≤(n:Int))=(OfNat.ofNat k≤n):=qmm k n
theorem qCT (k n:Nat):((n:Int)<(no_index (OfNat.ofNat k:Int)))=(n<OfNat.ofNat k):=qml n k
theorem qCU (k n:Nat):((n:Int)≤(no_index (OfNat.ofNat k:Int)))=(n≤OfNat.ofNat k):=qmm n k
theorem qCV (k n:Nat):((n:Int)=(no_index (OfNat.ofNat k:Int)))=(n=OfNat.ofNat k):=qsm n k
attribute [go_sem] qCR qCS qCT qCU qCV qml qmm qsm qwd List.length_map List.getElem?_map
end Go.Am
