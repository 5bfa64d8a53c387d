import Derived.Test.YtnpkhdjgedeppaaGreatDoorFacts
import Derived.Test.YtnpkhdjgedeppaaGreatDoorTConcat
namespace Go.Proofs.YtnpkhdjgedeppaaGreatDoor
set_option maxHeartbeats 64000000
open Go.Am
set_option linter.unusedSimpArgs false
set_option linter.unusedVariables false
set_option maxRecDepth 100000
theorem qkB {S:Nat→Prop} {U:List Nat} {w w':World} {v:Value} {e:TypeId} {l:List UInt8} (h:w'.ownsRow w.heap.size e 1 v l.length (Lib.byteCells l)):qhm (qeq S U w [] w') w' (.slice 1 (l.map qab)) v []:=by
 refine ⟨?_,rfl⟩
 rcases h.2 with ⟨rfl,h0⟩|⟨g,cap,cur,rfl,hbg,hg,hnc,hcm,hcs,htake⟩
 ·obtain rfl:l=[]:=List.length_eq_zero_iff.1 h0
  exact ⟨none,0,rfl,Nat.le_refl _,fun h=>absurd rfl h⟩
 ·have hlt:g<w'.heap.size:=by
   rcases Nat.lt_or_ge g w'.heap.size with h' | h'
   ·exact h'
   ·simp [Array.getElem?_eq_none h']at hg
  refine ⟨_,cap,by rw [List.length_map],by rw [List.length_map];exact hnc,fun _=>⟨g,0,rfl,⟨hlt,by simp,.inr (.inl hbg)⟩,?_⟩⟩
  rw [qbI]
  intro i r hr
  simp only [List.getElem?_map,Option.map_eq_some_iff]at hr
  obtain ⟨c,hi,rfl⟩:=hr
  obtain ⟨hil,rfl⟩:=List.getElem?_eq_some_iff.1 hi
  refine ⟨rfl,⟨_,?_,rfl⟩,trivial⟩
  simp only [World.cell?,hg,Option.isSome_none,Bool.false_eq_true,if_false]
  have:=congrArg (·[i]?) htake
  simp only [Nat.mul_one,Lib.byteCells,List.getElem?_map,hi,Option.map_some]at this
  rw [List.getElem?_take,if_pos hil]at this
  rw [Nat.zero_add,Nat.mul_one,←Array.getElem?_toList]
  exact this
def qdS (l:List UInt8):List AVal:=[.slice 1 (l.map qab)]
def qdt:List (List AVal)→Option (List (List UInt8))
 | []=>some []
 | [.slice 1 es]::rs=>(qdz es).bind fun l=>(qdt rs).bind fun ls=>some (l::ls)
 | _=>none
theorem qfO:∀(rs:List (List AVal)) (ps:List (List UInt8)),qdt rs=some ps→rs=ps.map qdS
 | [],ps,h=>by simp only [qdt,Option.some.injEq]at h;subst h;rfl
 | r::rs,ps,h=>by
  unfold qdt at h
  split at h
  ·rename_i e;cases e
  ·rename_i es rs' e
   simp only [List.cons.injEq]at e
   obtain ⟨rfl,rfl⟩:=e
   simp only [Option.bind_eq_some_iff,Option.some.injEq]at h
   obtain ⟨l,h1,ls,h2,rfl⟩:=h
   have:=qdn _ _ h1
   subst this
   have:=qfO _ _ h2
   subst this
   rfl
  ·cases h
def qcK:List AVal→List AVal
 | [.sc (.slice none 0 0)]=>[.slice 1 []]
 | r=>r
theorem qe5 {S:Nat→Prop} {w:World} {b off:Nat} {r:List AVal} (h:r.length=1∧qaP S w b off r):(qcK r).length=1∧qaP S w b off (qcK r):=by
 unfold qcK
 split
 ·obtain ⟨_,⟨⟨x,h1,h2⟩,_⟩⟩:=h
  refine ⟨rfl,⟨x,h1,?_⟩,trivial⟩
  simp only [qbt]at h2
  subst h2
  exact ⟨none,0,rfl,Nat.le_refl _,fun h=>absurd rfl h⟩
 ·exact h
theorem qfP {S:Nat→Prop} {w:World} {b:Nat}:∀{rs:List (List AVal)} {off:Nat},qbV S w b off 1 rs→qbV S w b off 1 (rs.map qcK)
 | [],_,_=>trivial
 | r::rs,off,⟨h1,h2,h3⟩=>⟨(qe5 ⟨h1,h2⟩).1,(qe5 ⟨h1,h2⟩).2,qfP h3⟩
theorem qmK (rs:List (List AVal)) (ps:List (List UInt8)) (hn:rs.map qcK=ps.map qdS) (h0:ps≠[]) (h1:ps.length≤1000000) (h2:ps.flatten.length≤1000000000000):Am.Spec E 262 [.slice 1 rs] (.slice 1 (ps.flatten.map qab)) []:=by
 intro S w xs U _ hG hst hor hnd hb
 obtain ⟨y,ys,U1,U2,rfl,rfl,⟨⟨a,cap,rfl,_,hc⟩,rfl⟩,⟨rfl,rfl⟩⟩:=hor
 have hlen:rs.length=ps.length:=by have:=congrArg List.length hn;simpa using this
 obtain ⟨b,off,rfl,hS,hr⟩:=hc (fun e=>h0 (List.length_eq_zero_iff.1 (by rw [←hlen,e];rfl)))
 have hr:=qfP hr
 rw [hn]at hr
 rw [hlen]
 refine (qmx ps b off cap w (hst b hS) h1 h2 fun i hi=>?_).mono ?_
 ·rw [qbI]at hr
  obtain ⟨_,h2⟩:=hr i (qdS ps[i]) (by simp [hi])
  obtain ⟨⟨x,h3,h4⟩,_⟩:=h2
  obtain ⟨a',cap',rfl,_,hc'⟩:=h4
  refine ⟨a',cap',by rw [List.length_map]at h3;simpa using h3,fun hne=>?_⟩
  obtain ⟨b',off',rfl,hS',hr'⟩:=hc' (by simpa using hne)
  refine ⟨b',off',rfl,hst b' hS',fun j hj=>?_⟩
  rw [qbI]at hr'
  obtain ⟨_,g2⟩:=hr' j (qab ps[i][j]) (by simp [hj])
  obtain ⟨⟨x,g3,g4⟩,_⟩:=g2
  simp only [qbt]at g4
  subst g4
  simpa using g3
 ·rintro e w' ⟨v,rfl,hown,hbl⟩
  exact ⟨v,[],rfl,Keep.same hbl.os hbl.tape hbl.output hbl.size (fun k hk=>hbl.block k hk),⟨v,[],[],[],rfl,rfl,qkB hown,rfl,rfl⟩,List.nodup_nil,fun b hb=>by cases hb⟩
def qfv:List Nat→List AVal→Option Res:=fun _ ds=>match ds with
 | [.slice 1 es]=>(qdt (es.map qcK)).bind fun ps=>gu (ps≠[]∧ps.length≤1000000∧ps.flatten.length≤1000000000000) (some (.slice 1 (ps.flatten.map qab),[]))
 | _=>none
theorem qpO:∀ex ds q,qfv ex ds=some q→qdl E ex 262 ds q.1 q.2:=by
 intro ex ds q hq
 unfold qfv at hq
 split at hq
 ·rename_i es
  rw [Option.bind_eq_some_iff]at hq
  obtain ⟨ps,h1,h2⟩:=hq
  simp only [qag,Option.some.injEq]at h2
  obtain ⟨⟨g1,g2,g3⟩,rfl⟩:=h2
  exact qdr (qmK es ps (qfO _ _ h1) g1 g2 g3)
 ·cases hq
def qaQ (st:Nat):List Nat→List AVal→Option Res:=fun _ ds=>match ds with
 | [.slice st' es]=>gu (st'=st) (gu (qav es=true) (some (.usl st es,[])))
 | _=>none
theorem qbB {E:Env} {f:FuncId} {st:Nat} (h0:Am.Spec E f [.slice st []] (.usl st []) []) (h:∀r rs,qav (r::rs)=true→Am.Spec E f [.slice st (r::rs)] (.usl st (r::rs)) []) :
  ∀ex ds q,qaQ st ex ds=some q→qdl E ex f ds q.1 q.2:=by
 intro ex ds q hq
 unfold qaQ at hq
 split at hq
 ·rename_i st' es
  simp only [qag,Option.some.injEq]at hq
  obtain ⟨rfl,h1,rfl⟩:=hq
  refine qdr ?_
  cases es with
  | nil=>exact h0
  | cons r rs=>exact h r rs h1
 ·cases hq
theorem qg0 {E:Env} {f:FuncId} {st:Nat} (h0:Am.Spec E f [.slice st []] (.usl st []) []) (h:∀r rs,qav (r::rs)=true→Am.Spec E f [.slice st (r::rs)] (.usl st (r::rs)) []) :
  ∀ex ds q,qbD st ex ds=some q→qdl E ex f ds q.1 q.2:=by
 intro ex ds q hq
 unfold qbD at hq
 split at hq
 ·rename_i st' es
  simp only [qag,Option.some.injEq]at hq
  obtain ⟨rfl,h1,rfl⟩:=hq
  exact qgG (qbB h0 h ex [.slice st' es] (.usl st' es,[]) (by simp [qaQ,gu,h1]))
 ·cases hq
def qaG (s:List UInt8):List AVal:=[.str s]
@[go_sem] theorem qFj (s:List UInt8):qaG s=[.str s]:=rfl
attribute [go_sem] ite_self
theorem qwY:Am.Spec E 58 [.slice 4 []] (.slice 4 []) []:=by
 refine qbg (fun c=>?_) (fun a c=>?_)
 ·refine qam (X:=C0.X) (M:=C0.M) qbb (fun f g ex ds q h=>by cases h) (q:=(.slice 4 [],[])) ?_
  show fn C0 58 [] _=_
  rw [qaa Tryz.func58 rfl rfl Tryz.results58 qGa.1 rfl rfl (by kernel_rfl)]
  simp -implicitDefEqProofs -dsimp +contextual (maxSteps:=9999999) (disch:=first | omega | simp only [go_sem]<;>omega | refine ib ?_;kernel_rfl) only [go_sem,seval,↓reduceIte]
 ·refine qam (X:=C0.X) (M:=C0.M) qbb (fun f g ex ds q h=>by cases h) (q:=(.slice 4 [],[])) ?_
  show fn C0 58 [] _=_
  rw [qaa Tryz.func58 rfl rfl Tryz.results58 qGa.1 rfl rfl (by kernel_rfl)]
  simp -implicitDefEqProofs -dsimp +contextual (maxSteps:=9999999) (disch:=first | omega | simp only [go_sem]<;>omega | refine ib ?_;kernel_rfl) only [go_sem,seval,↓reduceIte]
theorem qFk (r:List AVal) (rs:List (List AVal)) (h:qav (r::rs)=true):Am.Spec E 58 [.slice 4 (r::rs)] (.slice 4 (r::rs)) []:=by
 simp only [qav,Bool.and_eq_true,decide_eq_true_eq,List.all_cons,qbp,List.length_cons]at h
 obtain ⟨h1,⟨h2,h3⟩,h4,h5⟩:=h
 refine qam (X:=C0.X) (M:=C0.M) qbb (fun f g ex ds q h=>by cases h) (q:=(.slice 4 (r::rs),[])) ?_
 show fn C0 58 [] _=_
 rw [qaa Tryz.func58 rfl rfl Tryz.results58 qGa.1 rfl rfl (by kernel_rfl)]
 simp -implicitDefEqProofs -dsimp +contextual (maxSteps:=9999999) (disch:=first | omega | simp only [go_sem]<;>omega | refine ib ?_;kernel_rfl) only [go_sem,seval,↓reduceIte,h2,h3,h4,h5]
theorem qnD:Am.Spec E 54 [.slice 8 []] (.usl 8 []) []:=by
 refine qbg (fun c=>?_) (fun a c=>?_)
 ·refine qam (X:=C0.X) (M:=C0.M) qbb (fun f g ex ds q h=>by cases h) (q:=(.usl 8 [],[])) ?_
  show fn C0 54 [] _=_
  rw [qaa Tryz.func54 rfl rfl Tryz.results54 qF7.1 rfl rfl (by kernel_rfl)]
  simp -implicitDefEqProofs -dsimp +contextual (maxSteps:=9999999) (disch:=first | omega | simp only [go_sem]<;>omega | refine ib ?_;kernel_rfl) only [go_sem,seval,↓reduceIte]
 ·refine qam (X:=C0.X) (M:=C0.M) qbb (fun f g ex ds q h=>by cases h) (q:=(.usl 8 [],[])) ?_
  show fn C0 54 [] _=_
  rw [qaa Tryz.func54 rfl rfl Tryz.results54 qF7.1 rfl rfl (by kernel_rfl)]
  simp -implicitDefEqProofs -dsimp +contextual (maxSteps:=9999999) (disch:=first | omega | simp only [go_sem]<;>omega | refine ib ?_;kernel_rfl) only [go_sem,seval,↓reduceIte]
theorem qxZ (r:List AVal) (rs:List (List AVal)) (h:qav (r::rs)=true):Am.Spec E 54 [.slice 8 (r::rs)] (.usl 8 (r::rs)) []:=by
 simp only [qav,Bool.and_eq_true,decide_eq_true_eq,List.all_cons,qbp,List.length_cons]at h
 obtain ⟨h1,⟨h2,h3⟩,h4,h5⟩:=h
 refine qam (X:=C0.X) (M:=C0.M) qbb (fun f g ex ds q h=>by cases h) (q:=(.usl 8 (r::rs),[])) ?_
 show fn C0 54 [] _=_
 rw [qaa Tryz.func54 rfl rfl Tryz.results54 qF7.1 rfl rfl (by kernel_rfl)]
 simp -implicitDefEqProofs -dsimp +contextual (maxSteps:=9999999) (disch:=first | omega | simp only [go_sem]<;>omega | refine ib ?_;kernel_rfl) only [go_sem,seval,↓reduceIte,h2,h3,h4,h5]
theorem qnE:Am.Spec E 55 [.slice 9 []] (.usl 9 []) []:=by
 refine qbg (fun c=>?_) (fun a c=>?_)
 ·refine qam (X:=C0.X) (M:=C0.M) qbb (fun f g ex ds q h=>by cases h) (q:=(.usl 9 [],[])) ?_
  show fn C0 55 [] _=_
  rw [qaa Tryz.func55 rfl rfl Tryz.results55 qF8.1 rfl rfl (by kernel_rfl)]
  simp -implicitDefEqProofs -dsimp +contextual (maxSteps:=9999999) (disch:=first | omega | simp only [go_sem]<;>omega | refine ib ?_;kernel_rfl) only [go_sem,seval,↓reduceIte]
 ·refine qam (X:=C0.X) (M:=C0.M) qbb (fun f g ex ds q h=>by cases h) (q:=(.usl 9 [],[])) ?_
  show fn C0 55 [] _=_
  rw [qaa Tryz.func55 rfl rfl Tryz.results55 qF8.1 rfl rfl (by kernel_rfl)]
  simp -implicitDefEqProofs -dsimp +contextual (maxSteps:=9999999) (disch:=first | omega | simp only [go_sem]<;>omega | refine ib ?_;kernel_rfl) only [go_sem,seval,↓reduceIte]
theorem qx0 (r:List AVal) (rs:List (List AVal)) (h:qav (r::rs)=true):Am.Spec E 55 [.slice 9 (r::rs)] (.usl 9 (r::rs)) []:=by
 simp only [qav,Bool.and_eq_true,decide_eq_true_eq,List.all_cons,qbp,List.length_cons]at h
 obtain ⟨h1,⟨h2,h3⟩,h4,h5⟩:=h
 refine qam (X:=C0.X) (M:=C0.M) qbb (fun f g ex ds q h=>by cases h) (q:=(.usl 9 (r::rs),[])) ?_
 show fn C0 55 [] _=_
 rw [qaa Tryz.func55 rfl rfl Tryz.results55 qF8.1 rfl rfl (by kernel_rfl)]
 simp -implicitDefEqProofs -dsimp +contextual (maxSteps:=9999999) (disch:=first | omega | simp only [go_sem]<;>omega | refine ib ?_;kernel_rfl) only [go_sem,seval,↓reduceIte,h2,h3,h4,h5]
theorem qsS:Am.Spec E 210 [.slice 6 []] (.slice 6 []) []:=by
 refine qbg (fun c=>?_) (fun a c=>?_)
 ·refine qam (X:=C0.X) (M:=C0.M) qbb (fun f g ex ds q h=>by cases h) (q:=(.slice 6 [],[])) ?_
  show fn C0 210 [] _=_
  rw [qaa Tryz.func210 rfl rfl Tryz.results210 qwE.1 rfl rfl (by kernel_rfl)]
  simp -implicitDefEqProofs -dsimp +contextual (maxSteps:=9999999) (disch:=first | omega | simp only [go_sem]<;>omega | refine ib ?_;kernel_rfl) only [go_sem,seval,↓reduceIte]
 ·refine qam (X:=C0.X) (M:=C0.M) qbb (fun f g ex ds q h=>by cases h) (q:=(.slice 6 [],[])) ?_
  show fn C0 210 [] _=_
  rw [qaa Tryz.func210 rfl rfl Tryz.results210 qwE.1 rfl rfl (by kernel_rfl)]
  simp -implicitDefEqProofs -dsimp +contextual (maxSteps:=9999999) (disch:=first | omega | simp only [go_sem]<;>omega | refine ib ?_;kernel_rfl) only [go_sem,seval,↓reduceIte]
theorem qA6 (r:List AVal) (rs:List (List AVal)) (h:qav (r::rs)=true):Am.Spec E 210 [.slice 6 (r::rs)] (.slice 6 (r::rs)) []:=by
 simp only [qav,Bool.and_eq_true,decide_eq_true_eq,List.all_cons,qbp,List.length_cons]at h
 obtain ⟨h1,⟨h2,h3⟩,h4,h5⟩:=h
 refine qam (X:=C0.X) (M:=C0.M) qbb (fun f g ex ds q h=>by cases h) (q:=(.slice 6 (r::rs),[])) ?_
 show fn C0 210 [] _=_
 rw [qaa Tryz.func210 rfl rfl Tryz.results210 qwE.1 rfl rfl (by kernel_rfl)]
 simp -implicitDefEqProofs -dsimp +contextual (maxSteps:=9999999) (disch:=first | omega | simp only [go_sem]<;>omega | refine ib ?_;kernel_rfl) only [go_sem,seval,↓reduceIte,h2,h3,h4,h5]
theorem qwZ:Am.Spec E 60 [.slice 1 []] (.slice 1 []) []:=by
 refine qbg (fun c=>?_) (fun a c=>?_)
 ·refine qam (X:=C0.X) (M:=C0.M) qbb (fun f g ex ds q h=>by cases h) (q:=(.slice 1 [],[])) ?_
  show fn C0 60 [] _=_
  rw [qaa Tryz.func60 rfl rfl Tryz.results60 qGc.1 rfl rfl (by kernel_rfl)]
  simp -implicitDefEqProofs -dsimp +contextual (maxSteps:=9999999) (disch:=first | omega | simp only [go_sem]<;>omega | refine ib ?_;kernel_rfl) only [go_sem,seval,↓reduceIte]
 ·refine qam (X:=C0.X) (M:=C0.M) qbb (fun f g ex ds q h=>by cases h) (q:=(.slice 1 [],[])) ?_
  show fn C0 60 [] _=_
  rw [qaa Tryz.func60 rfl rfl Tryz.results60 qGc.1 rfl rfl (by kernel_rfl)]
  simp -implicitDefEqProofs -dsimp +contextual (maxSteps:=9999999) (disch:=first | omega | simp only [go_sem]<;>omega | refine ib ?_;kernel_rfl) only [go_sem,seval,↓reduceIte]
theorem qFl (r:List AVal) (rs:List (List AVal)) (h:qav (r::rs)=true):Am.Spec E 60 [.slice 1 (r::rs)] (.slice 1 (r::rs)) []:=by
 simp only [qav,Bool.and_eq_true,decide_eq_true_eq,List.all_cons,qbp,List.length_cons]at h
 obtain ⟨h1,⟨h2,h3⟩,h4,h5⟩:=h
 refine qam (X:=C0.X) (M:=C0.M) qbb (fun f g ex ds q h=>by cases h) (q:=(.slice 1 (r::rs),[])) ?_
 show fn C0 60 [] _=_
 rw [qaa Tryz.func60 rfl rfl Tryz.results60 qGc.1 rfl rfl (by kernel_rfl)]
 simp -implicitDefEqProofs -dsimp +contextual (maxSteps:=9999999) (disch:=first | omega | simp only [go_sem]<;>omega | refine ib ?_;kernel_rfl) only [go_sem,seval,↓reduceIte,h2,h3,h4,h5]
theorem qw0:Am.Spec E 56 [.slice 20 []] (.usl 20 []) []:=by
 refine qbg (fun c=>?_) (fun a c=>?_)
 ·refine qam (X:=C0.X) (M:=C0.M) qbb (fun f g ex ds q h=>by cases h) (q:=(.usl 20 [],[])) ?_
  show fn C0 56 [] _=_
  rw [qaa Tryz.func56 rfl rfl Tryz.results56 qF9.1 rfl rfl (by kernel_rfl)]
  simp -implicitDefEqProofs -dsimp +contextual (maxSteps:=9999999) (disch:=first | omega | simp only [go_sem]<;>omega | refine ib ?_;kernel_rfl) only [go_sem,seval,↓reduceIte]
 ·refine qam (X:=C0.X) (M:=C0.M) qbb (fun f g ex ds q h=>by cases h) (q:=(.usl 20 [],[])) ?_
  show fn C0 56 [] _=_
  rw [qaa Tryz.func56 rfl rfl Tryz.results56 qF9.1 rfl rfl (by kernel_rfl)]
  simp -implicitDefEqProofs -dsimp +contextual (maxSteps:=9999999) (disch:=first | omega | simp only [go_sem]<;>omega | refine ib ?_;kernel_rfl) only [go_sem,seval,↓reduceIte]
theorem qFm (r:List AVal) (rs:List (List AVal)) (h:qav (r::rs)=true):Am.Spec E 56 [.slice 20 (r::rs)] (.usl 20 (r::rs)) []:=by
 simp only [qav,Bool.and_eq_true,decide_eq_true_eq,List.all_cons,qbp,List.length_cons]at h
 obtain ⟨h1,⟨h2,h3⟩,h4,h5⟩:=h
 refine qam (X:=C0.X) (M:=C0.M) qbb (fun f g ex ds q h=>by cases h) (q:=(.usl 20 (r::rs),[])) ?_
 show fn C0 56 [] _=_
 rw [qaa Tryz.func56 rfl rfl Tryz.results56 qF9.1 rfl rfl (by kernel_rfl)]
 simp -implicitDefEqProofs -dsimp +contextual (maxSteps:=9999999) (disch:=first | omega | simp only [go_sem]<;>omega | refine ib ?_;kernel_rfl) only [go_sem,seval,↓reduceIte,h2,h3,h4,h5]
theorem qsT:Am.Spec E 147 [.slice 23 []] (.usl 23 []) []:=by
 refine qbg (fun c=>?_) (fun a c=>?_)
 ·refine qam (X:=C0.X) (M:=C0.M) qbb (fun f g ex ds q h=>by cases h) (q:=(.usl 23 [],[])) ?_
  show fn C0 147 [] _=_
  rw [qaa Tryz.func147 rfl rfl Tryz.results147 qwB.1 rfl rfl (by kernel_rfl)]
  simp -implicitDefEqProofs -dsimp +contextual (maxSteps:=9999999) (disch:=first | omega | simp only [go_sem]<;>omega | refine ib ?_;kernel_rfl) only [go_sem,seval,↓reduceIte]
 ·refine qam (X:=C0.X) (M:=C0.M) qbb (fun f g ex ds q h=>by cases h) (q:=(.usl 23 [],[])) ?_
  show fn C0 147 [] _=_
  rw [qaa Tryz.func147 rfl rfl Tryz.results147 qwB.1 rfl rfl (by kernel_rfl)]
  simp -implicitDefEqProofs -dsimp +contextual (maxSteps:=9999999) (disch:=first | omega | simp only [go_sem]<;>omega | refine ib ?_;kernel_rfl) only [go_sem,seval,↓reduceIte]
theorem qA7 (r:List AVal) (rs:List (List AVal)) (h:qav (r::rs)=true):Am.Spec E 147 [.slice 23 (r::rs)] (.usl 23 (r::rs)) []:=by
 simp only [qav,Bool.and_eq_true,decide_eq_true_eq,List.all_cons,qbp,List.length_cons]at h
 obtain ⟨h1,⟨h2,h3⟩,h4,h5⟩:=h
 refine qam (X:=C0.X) (M:=C0.M) qbb (fun f g ex ds q h=>by cases h) (q:=(.usl 23 (r::rs),[])) ?_
 show fn C0 147 [] _=_
 rw [qaa Tryz.func147 rfl rfl Tryz.results147 qwB.1 rfl rfl (by kernel_rfl)]
 simp -implicitDefEqProofs -dsimp +contextual (maxSteps:=9999999) (disch:=first | omega | simp only [go_sem]<;>omega | refine ib ?_;kernel_rfl) only [go_sem,seval,↓reduceIte,h2,h3,h4,h5]
theorem qw1:Am.Spec E 59 [.slice 29 []] (.usl 29 []) []:=by
 refine qbg (fun c=>?_) (fun a c=>?_)
 ·refine qam (X:=C0.X) (M:=C0.M) qbb (fun f g ex ds q h=>by cases h) (q:=(.usl 29 [],[])) ?_
  show fn C0 59 [] _=_
  rw [qaa Tryz.func59 rfl rfl Tryz.results59 qGb.1 rfl rfl (by kernel_rfl)]
  simp -implicitDefEqProofs -dsimp +contextual (maxSteps:=9999999) (disch:=first | omega | simp only [go_sem]<;>omega | refine ib ?_;kernel_rfl) only [go_sem,seval,↓reduceIte]
 ·refine qam (X:=C0.X) (M:=C0.M) qbb (fun f g ex ds q h=>by cases h) (q:=(.usl 29 [],[])) ?_
  show fn C0 59 [] _=_
  rw [qaa Tryz.func59 rfl rfl Tryz.results59 qGb.1 rfl rfl (by kernel_rfl)]
  simp -implicitDefEqProofs -dsimp +contextual (maxSteps:=9999999) (disch:=first | omega | simp only [go_sem]<;>omega | refine ib ?_;kernel_rfl) only [go_sem,seval,↓reduceIte]
theorem qFn (r:List AVal) (rs:List (List AVal)) (h:qav (r::rs)=true):Am.Spec E 59 [.slice 29 (r::rs)] (.usl 29 (r::rs)) []:=by
 simp only [qav,Bool.and_eq_true,decide_eq_true_eq,List.all_cons,qbp,List.length_cons]at h
 obtain ⟨h1,⟨h2,h3⟩,h4,h5⟩:=h
 refine qam (X:=C0.X) (M:=C0.M) qbb (fun f g ex ds q h=>by cases h) (q:=(.usl 29 (r::rs),[])) ?_
 show fn C0 59 [] _=_
 rw [qaa Tryz.func59 rfl rfl Tryz.results59 qGb.1 rfl rfl (by kernel_rfl)]
 simp -implicitDefEqProofs -dsimp +contextual (maxSteps:=9999999) (disch:=first | omega | simp only [go_sem]<;>omega | refine ib ?_;kernel_rfl) only [go_sem,seval,↓reduceIte,h2,h3,h4,h5]
theorem qw2:Am.Spec E 61 [.slice 8 []] (.usl 8 []) []:=by
 refine qbg (fun c=>?_) (fun a c=>?_)
 ·refine qam (X:=C0.X) (M:=C0.M) qbb (fun f g ex ds q h=>by cases h) (q:=(.usl 8 [],[])) ?_
  show fn C0 61 [] _=_
  rw [qaa Tryz.func61 rfl rfl Tryz.results61 qGd.1 rfl rfl (by kernel_rfl)]
  simp -implicitDefEqProofs -dsimp +contextual (maxSteps:=9999999) (disch:=first | omega | simp only [go_sem]<;>omega | refine ib ?_;kernel_rfl) only [go_sem,seval,↓reduceIte]
 ·refine qam (X:=C0.X) (M:=C0.M) qbb (fun f g ex ds q h=>by cases h) (q:=(.usl 8 [],[])) ?_
  show fn C0 61 [] _=_
  rw [qaa Tryz.func61 rfl rfl Tryz.results61 qGd.1 rfl rfl (by kernel_rfl)]
  simp -implicitDefEqProofs -dsimp +contextual (maxSteps:=9999999) (disch:=first | omega | simp only [go_sem]<;>omega | refine ib ?_;kernel_rfl) only [go_sem,seval,↓reduceIte]
theorem qFo (r:List AVal) (rs:List (List AVal)) (h:qav (r::rs)=true):Am.Spec E 61 [.slice 8 (r::rs)] (.usl 8 (r::rs)) []:=by
 simp only [qav,Bool.and_eq_true,decide_eq_true_eq,List.all_cons,qbp,List.length_cons]at h
 obtain ⟨h1,⟨h2,h3⟩,h4,h5⟩:=h
 refine qam (X:=C0.X) (M:=C0.M) qbb (fun f g ex ds q h=>by cases h) (q:=(.usl 8 (r::rs),[])) ?_
 show fn C0 61 [] _=_
 rw [qaa Tryz.func61 rfl rfl Tryz.results61 qGd.1 rfl rfl (by kernel_rfl)]
 simp -implicitDefEqProofs -dsimp +contextual (maxSteps:=9999999) (disch:=first | omega | simp only [go_sem]<;>omega | refine ib ?_;kernel_rfl) only [go_sem,seval,↓reduceIte,h2,h3,h4,h5]
theorem qnF:Am.Spec E 62 [.slice 1 []] (.usl 1 []) []:=by
 refine qbg (fun c=>?_) (fun a c=>?_)
 ·refine qam (X:=C0.X) (M:=C0.M) qbb (fun f g ex ds q h=>by cases h) (q:=(.usl 1 [],[])) ?_
  show fn C0 62 [] _=_
  rw [qaa Tryz.func62 rfl rfl Tryz.results62 qGe.1 rfl rfl (by kernel_rfl)]
  simp -implicitDefEqProofs -dsimp +contextual (maxSteps:=9999999) (disch:=first | omega | simp only [go_sem]<;>omega | refine ib ?_;kernel_rfl) only [go_sem,seval,↓reduceIte]
 ·refine qam (X:=C0.X) (M:=C0.M) qbb (fun f g ex ds q h=>by cases h) (q:=(.usl 1 [],[])) ?_
  show fn C0 62 [] _=_
  rw [qaa Tryz.func62 rfl rfl Tryz.results62 qGe.1 rfl rfl (by kernel_rfl)]
  simp -implicitDefEqProofs -dsimp +contextual (maxSteps:=9999999) (disch:=first | omega | simp only [go_sem]<;>omega | refine ib ?_;kernel_rfl) only [go_sem,seval,↓reduceIte]
theorem qx1 (r:List AVal) (rs:List (List AVal)) (h:qav (r::rs)=true):Am.Spec E 62 [.slice 1 (r::rs)] (.usl 1 (r::rs)) []:=by
 simp only [qav,Bool.and_eq_true,decide_eq_true_eq,List.all_cons,qbp,List.length_cons]at h
 obtain ⟨h1,⟨h2,h3⟩,h4,h5⟩:=h
 refine qam (X:=C0.X) (M:=C0.M) qbb (fun f g ex ds q h=>by cases h) (q:=(.usl 1 (r::rs),[])) ?_
 show fn C0 62 [] _=_
 rw [qaa Tryz.func62 rfl rfl Tryz.results62 qGe.1 rfl rfl (by kernel_rfl)]
 simp -implicitDefEqProofs -dsimp +contextual (maxSteps:=9999999) (disch:=first | omega | simp only [go_sem]<;>omega | refine ib ?_;kernel_rfl) only [go_sem,seval,↓reduceIte,h2,h3,h4,h5]
theorem qw3:Am.Spec E 289 [.slice 1 []] (.usl 1 []) []:=by
 refine qbg (fun c=>?_) (fun a c=>?_)
 ·refine qam (X:=C0.X) (M:=C0.M) qbb (fun f g ex ds q h=>by cases h) (q:=(.usl 1 [],[])) ?_
  show fn C0 289 [] _=_
  rw [qaa Tryz.func289 rfl rfl Tryz.results289 qwG.1 rfl rfl (by kernel_rfl)]
  simp -implicitDefEqProofs -dsimp +contextual (maxSteps:=9999999) (disch:=first | omega | simp only [go_sem]<;>omega | refine ib ?_;kernel_rfl) only [go_sem,seval,↓reduceIte]
 ·refine qam (X:=C0.X) (M:=C0.M) qbb (fun f g ex ds q h=>by cases h) (q:=(.usl 1 [],[])) ?_
  show fn C0 289 [] _=_
  rw [qaa Tryz.func289 rfl rfl Tryz.results289 qwG.1 rfl rfl (by kernel_rfl)]
  simp -implicitDefEqProofs -dsimp +contextual (maxSteps:=9999999) (disch:=first | omega | simp only [go_sem]<;>omega | refine ib ?_;kernel_rfl) only [go_sem,seval,↓reduceIte]
theorem qw4 (r:List AVal) (rs:List (List AVal)) (h:qav (r::rs)=true):Am.Spec E 289 [.slice 1 (r::rs)] (.usl 1 (r::rs)) []:=by
 simp only [qav,Bool.and_eq_true,decide_eq_true_eq,List.all_cons,qbp,List.length_cons]at h
 obtain ⟨h1,⟨h2,h3⟩,h4,h5⟩:=h
 refine qam (X:=C0.X) (M:=C0.M) qbb (fun f g ex ds q h=>by cases h) (q:=(.usl 1 (r::rs),[])) ?_
 show fn C0 289 [] _=_
 rw [qaa Tryz.func289 rfl rfl Tryz.results289 qwG.1 rfl rfl (by kernel_rfl)]
 simp -implicitDefEqProofs -dsimp +contextual (maxSteps:=9999999) (disch:=first | omega | simp only [go_sem]<;>omega | refine ib ?_;kernel_rfl) only [go_sem,seval,↓reduceIte,h2,h3,h4,h5]
def qnG:List Nat→List AVal→Option Res:=qaQ 1
theorem qsU:∀ex ds q,qnG ex ds=some q→qdl E ex 289 ds q.1 q.2:=qbB qw3 qw4
def own:Own:=qAn [(58,qbD 4),(210,qbD 6),(60,qbD 1),(262,qfv),(289,qnG),(56,(qaQ 20)),(147,(qaQ 23)),(59,(qaQ 29)),(61,(qaQ 8)),(54,(qbD 8)),(55,(qbD 9)),(62,(qbD 1))]
noncomputable def C:Cf:=⟨E,M,own⟩
@[go_sem] theorem C_E:C.E=E:=rfl
@[go_sem] theorem C_M:C.M=M:=rfl
@[go_sem] theorem C_X:C.X=own:=rfl
theorem qsV:qgN C.E C.X:=qwg fun p hp=>by
 simp only [List.mem_cons,List.not_mem_nil,or_false]at hp
 rcases hp with rfl | rfl | rfl | rfl | rfl | rfl | rfl | rfl | rfl | rfl | rfl | rfl
 ·exact qgQ qwY qFk
 ·exact qgQ qsS qA6
 ·exact qgQ qwZ qFl
 ·exact qpO
 ·exact qsU
 ·exact qbB qw0 qFm
 ·exact qbB qsT qA7
 ·exact qbB qw1 qFn
 ·exact qbB qw2 qFo
 ·exact qg0 qnD qxZ
 ·exact qg0 qnE qx0
 ·exact qg0 qnF qx1
theorem qx2 (ex ds):fn C 262 ex ds=qfv ex ds:=qbC rfl ex ds
theorem qFp (ex ds):fn C 289 ex ds=qnG ex ds:=qbC rfl ex ds
theorem qHR (ex ds):fn C 56 ex ds=(qaQ 20) ex ds:=qbC rfl ex ds
theorem qFq (ex ds):fn C 147 ex ds=(qaQ 23) ex ds:=qbC rfl ex ds
theorem qHS (ex ds):fn C 59 ex ds=(qaQ 29) ex ds:=qbC rfl ex ds
theorem qHT (ex ds):fn C 61 ex ds=(qaQ 8) ex ds:=qbC rfl ex ds
theorem qHU (ex ds):fn C 54 ex ds=(qbD 8) ex ds:=qbC rfl ex ds
theorem qHV (ex ds):fn C 55 ex ds=(qbD 9) ex ds:=qbC rfl ex ds
theorem qHW (ex ds):fn C 62 ex ds=(qbD 1) ex ds:=qbC rfl ex ds
@[go_sem] theorem qLZ (es:List (List AVal)):fn C 58 [] [.slice 4 es]=gu (qav es=true) (some (.slice 4 es,[])):=by
 rw [qbC (g:=qbD 4) rfl]
 simp [qbD,gu]
@[go_sem] theorem qJR (es:List (List AVal)):fn C 210 [] [.slice 6 es]=gu (qav es=true) (some (.slice 6 es,[])):=by
 rw [qbC (g:=qbD 6) rfl]
 simp [qbD,gu]
@[go_sem] theorem qL0 (es:List (List AVal)):fn C 60 [] [.slice 1 es]=gu (qav es=true) (some (.slice 1 es,[])):=by
 rw [qbC (g:=qbD 1) rfl]
 simp [qbD,gu]
@[go_sem] theorem qL1 (es:List (List AVal)):fn C 56 [] [.slice 20 es]=gu (qav es=true) (some (.usl 20 es,[])):=by
 rw [qHR]
 simp [qaQ,gu]
@[go_sem] theorem qJS (es:List (List AVal)):fn C 147 [] [.slice 23 es]=gu (qav es=true) (some (.usl 23 es,[])):=by
 rw [qFq]
 simp [qaQ,gu]
@[go_sem] theorem qL2 (es:List (List AVal)):fn C 59 [] [.slice 29 es]=gu (qav es=true) (some (.usl 29 es,[])):=by
 rw [qHS]
 simp [qaQ,gu]
@[go_sem] theorem qL3 (es:List (List AVal)):fn C 61 [] [.slice 8 es]=gu (qav es=true) (some (.usl 8 es,[])):=by
 rw [qHT]
 simp [qaQ,gu]
@[go_sem] theorem qL4 (es:List (List AVal)):fn C 54 [] [.slice 8 es]=gu (qav es=true) (some (.slice 8 es,[])):=by
 rw [qHU]
 simp [qbD,gu]
@[go_sem] theorem qL5 (es:List (List AVal)):fn C 55 [] [.slice 9 es]=gu (qav es=true) (some (.slice 9 es,[])):=by
 rw [qHV]
 simp [qbD,gu]
@[go_sem] theorem qL6 (es:List (List AVal)):fn C 62 [] [.slice 1 es]=gu (qav es=true) (some (.slice 1 es,[])):=by
 rw [qHW]
 simp [qbD,gu]
theorem qmL (a b:List UInt8):qdt (List.map qcK [[.slice 1 (a.map qab)],[.slice 1 (b.map qab)]])=some [a,b]:=by
 simp [qcK,qdt,qfr]
@[go_sem] theorem qNq (a b:List UInt8) (h:a.length+b.length≤1000000000000):fn C 262 [] [.slice 1 [[.slice 1 (a.map qab)],[.slice 1 (b.map qab)]]]=some (.slice 1 ((a++b).map qab),[]):=by
 rw [qx2];simp only [qfv];rw [qmL];simp [gu,h]
theorem qmM (ps:List (List UInt8)):qdt (ps.map qdS)=some ps:=by
 induction ps with
 | nil=>rfl
 | cons p ps ih=>simp [qdt,qdS,qfr]at ih ⊢;rw [ih];rfl
theorem qpP (p:List UInt8) (rs:List (List AVal)) (ps:List (List UInt8)) (hn:rs.map qcK=ps.map qdS) (h1:ps.length≤1000) (h:(p++ps.flatten).length≤1000000000000):fn C 262 [] [.slice 1 ([.slice 1 (p.map qab)]::rs)]=some (.slice 1 ((p++ps.flatten).map qab),[]):=by
 have e:([.slice 1 (p.map qab)]::rs).map qcK=(p::ps).map qdS:=by rw [List.map_cons,hn];rfl
 rw [qx2]
 simp only [qfv]
 rw [e]
 simp only [qmM,Option.bind_some,gu,List.flatten_cons]
 rw [if_pos ⟨by simp,by simp;omega,h⟩]
@[go_sem] theorem qNr (l:List UInt8) (h:l.length≤1073741824):fn C 289 [] [.slice 1 (l.map qab)]=some (.usl 1 (l.map qab),[]):=by
 rw [qFp];simp [qnG,qaQ,gu,qgP,h]
def okB (b:UInt8):Bool:=decide (32<b.toNat)&&decide (b.toNat<127)
def qx3 (l:List UInt8):Bool:=decide (1≤l.length)&&decide (l.length≤24)&&l.all okB
@[go_sem] theorem e65 (l:List UInt8):fn C 65 [] [.str l]=some (.bool (decide (l.length≤32)),[]):=by
 rw [qaa Tryz.func65 rfl rfl Tryz.results65 qJl.1 rfl rfl (by kernel_rfl)]
 simp -implicitDefEqProofs -dsimp +contextual (maxSteps:=9999999) (disch:=first | omega | simp only [go_sem]<;>omega | refine ib ?_;kernel_rfl) only [go_sem,seval,↓reduceIte]<;>
 exact qas (by simp;omega)
@[go_sem] theorem e67 (l:List UInt8):fn C 67 [] [.str l]=some (.bool (qx3 l),[]):=by
 rw [qaa Tryz.func67 rfl rfl Tryz.results67 qJm.1 rfl rfl (by kernel_rfl)]
 simp -implicitDefEqProofs -dsimp +contextual (maxSteps:=9999999) (disch:=first | omega | simp only [go_sem]<;>omega | refine ib ?_;kernel_rfl) only [go_sem,seval,↓reduceIte]
 (repeat' (refine qae (fun _=>?_) (fun _=>?_)))
 ·exact qas (by simp [qx3];omega)
 ·exact qas (by simp [qx3];omega)
 refine (qaj (fun i f H=>f 0= .str l∧f 3= .int .i64 (i:Nat)∧H=qac.nil∧i≤l.length) (fun i=>l.length - i) (fun i=>some (.bool ((l.drop i).all okB),[])) ?_ 0 _ _ ⟨rfl,rfl,rfl,by omega⟩).trans ?_
 ·rintro i f _ ⟨h0,h3,rfl,hi⟩ ih
  by_cases hl:i<l.length
  ·rw [List.drop_eq_getElem_cons hl]
   simp -implicitDefEqProofs -dsimp +contextual (maxSteps:=9999999) (disch:=first | omega | simp only [go_sem]<;>omega | refine ib ?_;kernel_rfl) only [go_sem,seval,↓reduceIte,h0,h3,hl]
   (repeat' (refine qae (fun _=>?_) (fun _=>?_)))
   ·exact qas (by simp [okB]<;>omega)
   ·exact qas (by simp [okB]<;>omega)
   ·have hb:okB l[i]=true:=by simp [okB]<;>omega
    exact (ih (i+1) _ _ (by exact ⟨h0,rfl,rfl,by omega⟩) (by omega)).trans (by simp [hb])
  ·simp -implicitDefEqProofs -dsimp +contextual (maxSteps:=9999999) (disch:=first | omega | simp only [go_sem]<;>omega | refine ib ?_;kernel_rfl) only [go_sem,seval,↓reduceIte,h0,h3,hl]<;>
   exact qas (by simp [show i=l.length by omega])
 ·exact qas (by simp [qx3];omega)
@[go_sem] theorem e64 (l:List UInt8) (hl:l.length≤9223372036854775807):fn C 64 [] [.str l]=some (.bool (qx3 l),[]):=by
 rw [qaa Tryz.func64 rfl rfl Tryz.results64 qJk.1 rfl rfl (by kernel_rfl)]
 simp -implicitDefEqProofs -dsimp +contextual (maxSteps:=9999999) (disch:=first | omega | simp only [go_sem]<;>omega | refine ib ?_;kernel_rfl) only [go_sem,seval,↓reduceIte]
 refine (qaj (fun i f H=>f 0= .str l∧f 5= .int .i64 l.length∧f 6= .int .i64 (i:Nat)∧H=qac.nil∧i≤l.length) (fun i=>l.length - i) (fun i=>some (.bool (decide (1≤l.length)&&decide (l.length≤24)&&(l.drop i).all okB),[])) ?_ 0 _ _ ⟨rfl,rfl,rfl,rfl,by omega⟩).trans rfl
 rintro i f _ ⟨h0,h5,h6,rfl,hi⟩ ih
 by_cases hl:i<l.length
 ·rw [List.drop_eq_getElem_cons hl]
  simp -implicitDefEqProofs -dsimp +contextual (maxSteps:=9999999) (disch:=first | omega | simp only [go_sem]<;>omega | refine ib ?_;kernel_rfl) only [go_sem,seval,↓reduceIte,h0,h5,h6,hl]
  (repeat' (refine qae (fun _=>?_) (fun _=>?_)))
  ·exact qas (by simp [okB]<;>omega)
  ·exact qas (by simp [okB]<;>omega)
  ·have hb:okB l[i]=true:=by simp [okB]<;>omega
   exact (ih (i+1) _ _ (by exact ⟨h0,h5,rfl,rfl,by omega⟩) (by omega)).trans (by simp [hb])
 ·simp -implicitDefEqProofs -dsimp +contextual (maxSteps:=9999999) (disch:=first | omega | simp only [go_sem]<;>omega | refine ib ?_;kernel_rfl) only [go_sem,seval,↓reduceIte,h0,h5,h6,hl]
  obtain rfl:i=l.length:=by omega
  cases l with
  | nil=>simp -implicitDefEqProofs -dsimp +contextual (maxSteps:=9999999) (disch:=first | omega | simp only [go_sem]<;>omega | refine ib ?_;kernel_rfl) only [go_sem,seval,↓reduceIte]
  | cons b l=>simp -implicitDefEqProofs -dsimp +contextual (maxSteps:=9999999) (disch:=first | omega | simp only [go_sem]<;>omega | refine ib ?_;kernel_rfl) only [go_sem,seval,↓reduceIte]<;>exact qas (by simp<;>omega)
def azS:List UInt8:=[97,98,99,100,101,102,103,104,105,106,107,108,109,110,111,112,113,114,115,116,117,118,119,120,121,122]
def anS:List UInt8:=[97,98,99,100,101,102,103,104,105,106,107,108,109,110,111,112,113,114,115,116,117,118,119,120,121,122,48,49,50,51,52,53,54,55,56,57,45]
@[go_sem] theorem qGn:([97,98,99,100,101,102,103,104,105,106,107,108,109,110,111,112,113,114,115,116,117,118,119,120,121,122]:List UInt8)=azS:=rfl
@[go_sem] theorem qGo:([97,98,99,100,101,102,103,104,105,106,107,108,109,110,111,112,113,114,115,116,117,118,119,120,121,122,48,49,50,51,52,53,54,55,56,57,45]:List UInt8)=anS:=rfl
@[go_sem] theorem qHX:azS.length=26:=rfl
@[go_sem] theorem qHY:anS.length=37:=rfl
def qen (c:UInt8):Bool:=decide (97≤c.toNat)&&decide (c.toNat≤122)
def qdD (c:UInt8):Bool:=qen c|| (decide (48≤c.toNat)&&decide (c.toNat≤57))|| decide (c.toNat=45)
def inB (c:UInt8) (s:List UInt8):Bool:=s.any fun x=>decide (x.toNat=c.toNat)
theorem qw5 (c:UInt8):inB c azS=qen c:=by
 have:∀n:Fin 256,inB (UInt8.ofNat n.val) azS=qen (UInt8.ofNat n.val):=by decide +kernel
 simpa using this ⟨c.toNat,c.toNat_lt⟩
theorem qw6 (c:UInt8):inB c anS=qdD c:=by
 have:∀n:Fin 256,inB (UInt8.ofNat n.val) anS=qdD (UInt8.ofNat n.val):=by decide +kernel
 simpa using this ⟨c.toNat,c.toNat_lt⟩
def qfw (l:List UInt8):Bool:=decide (1≤l.length)&&decide (l.length≤16)&&qen (l.getD 0 0)&&l.all qdD
@[go_sem] theorem qL7 (c:UInt8):fn C 268 [] [.int .u8 (c.toNat:Int)]=some (.bool (qen c),[]):=by
 rw [qaa Tryz.func268 rfl rfl Tryz.results268 qEI.1 rfl rfl (by kernel_rfl)]
 by_cases h1:97≤c.toNat
 ·simp -implicitDefEqProofs -dsimp +contextual (maxSteps:=9999999) (disch:=first | omega | simp only [go_sem]<;>omega | refine ib ?_;kernel_rfl) only [go_sem,seval,↓reduceIte,h1]
  simp [qen,h1]
 ·simp -implicitDefEqProofs -dsimp +contextual (maxSteps:=9999999) (disch:=first | omega | simp only [go_sem]<;>omega | refine ib ?_;kernel_rfl) only [go_sem,seval,↓reduceIte,h1]
  simp [qen,h1]
theorem qw7 (c:UInt8) (s:List UInt8) (i:Nat) (h:i<s.length):inB c (s.take (i+1))=(inB c (s.take i)|| decide (s[i].toNat=c.toNat)):=by
 rw [List.take_succ_eq_append_getElem h,inB,List.any_append];simp [inB]
theorem qA8 (c:UInt8) (s:List UInt8) (i:Nat) (h:i<s.length) (e:s[i].toNat=c.toNat):inB c s=true:=by
 rw [inB,List.any_eq_true];exact ⟨s[i],List.getElem_mem h,by simp [e]⟩
@[go_sem] theorem qNs (c:UInt8) (s:List UInt8) (hs:s.length≤1000000000000):fn C 272 [] [.int .u8 (c.toNat:Int),.str s]=some (.bool (inB c s),[]):=by
 rw [qaa Tryz.func272 rfl rfl Tryz.results272 qEM.1 rfl rfl (by kernel_rfl)]
 simp -implicitDefEqProofs -dsimp +contextual (maxSteps:=9999999) (disch:=first | omega | simp only [go_sem]<;>omega | refine ib ?_;kernel_rfl) only [go_sem,seval,↓reduceIte]
 refine (qaj (fun (i:Nat) f H=>f 0= .int .u8 (c.toNat:Int)∧f 1= .str s∧f 5= .int .i64 (i:Int)∧i≤s.length∧inB c (s.take i)=false) (fun i=>s.length - i) (fun _=>some (.bool (inB c s),[])) ?_ 0 _ _ ⟨rfl,rfl,rfl,by omega,rfl⟩)
 rintro i f H ⟨f0,f1,f5,hi,ha⟩ ih
 by_cases hl:i<s.length
 ·by_cases he:s[i].toNat=c.toNat
  ·rw [qA8 c s i hl he]
   simp -implicitDefEqProofs -dsimp +contextual (maxSteps:=9999999) (disch:=first | omega | simp only [go_sem]<;>omega | refine ib ?_;kernel_rfl) only [go_sem,seval,↓reduceIte,f0,f1,f5,hl,he]
  ·simp -implicitDefEqProofs -dsimp +contextual (maxSteps:=9999999) (disch:=first | omega | simp only [go_sem]<;>omega | refine ib ?_;kernel_rfl) only [go_sem,seval,↓reduceIte,f0,f1,f5,hl,he]
   exact ih (i+1) _ _ ⟨f0,f1,rfl,by omega,by rw [qw7 c s i hl,ha];simp [he]⟩ (by omega)
 ·rw [List.take_of_length_le (by omega)]at ha
  rw [ha]
  simp -implicitDefEqProofs -dsimp +contextual (maxSteps:=9999999) (disch:=first | omega | simp only [go_sem]<;>omega | refine ib ?_;kernel_rfl) only [go_sem,seval,↓reduceIte,f0,f1,f5,hl]
theorem qg1 (l:List UInt8) (i:Nat) (h:i<l.length) (hb:qdD l[i]=false):qfw l=false:=by
 have:l.all qdD=false:=by rw [List.all_eq_false];exact ⟨l[i],List.getElem_mem h,by simp [hb]⟩
 simp [qfw,this]
theorem qe6 {p:UInt8→Bool} (l:List UInt8) (i:Nat) (h:i<l.length):(l.take (i+1)).all p=((l.take i).all p&&p l[i]):=by
 rw [List.take_succ_eq_append_getElem h,List.all_append];simp
@[go_sem] theorem qNt (l:List UInt8) (hl:l.length≤1000000000000):fn C 255 [] [.str l]=some (.bool (qfw l),[]):=by
 rw [qaa Tryz.func255 rfl rfl Tryz.results255 qEx.1 rfl rfl (by kernel_rfl)]
 by_cases h0:l.length<1
 ·obtain rfl:l=[]:=List.length_eq_zero_iff.1 (by omega)
  simp -implicitDefEqProofs -dsimp +contextual (maxSteps:=9999999) (disch:=first | omega | simp only [go_sem]<;>omega | refine ib ?_;kernel_rfl) only [go_sem,seval,↓reduceIte]
  rfl
 ·by_cases h16:16<l.length
  ·simp -implicitDefEqProofs -dsimp +contextual (maxSteps:=9999999) (disch:=first | omega | simp only [go_sem]<;>omega | refine ib ?_;kernel_rfl) only [go_sem,seval,↓reduceIte,h0,h16]
   simp [qfw];omega
  ·by_cases hs:qen l[0]=true
   ·simp -implicitDefEqProofs -dsimp +contextual (maxSteps:=9999999) (disch:=first | omega | simp only [go_sem]<;>omega | refine ib ?_;kernel_rfl) only [go_sem,seval,↓reduceIte,h0,h16,qw5,qw6,hs]
    refine (qaj (fun (i:Nat) f H=>f 0= .str l∧f 3= .int .i64 (i:Int)∧i≤l.length∧(l.take i).all qdD=true) (fun i=>l.length - i) (fun _=>some (.bool (qfw l),[])) ?_ 0 _ _ ⟨rfl,rfl,by omega,rfl⟩)
    rintro i f H ⟨f0,f3,hi,ha⟩ ih
    by_cases hl:i<l.length
    ·by_cases hn:qdD l[i]=true
     ·simp -implicitDefEqProofs -dsimp +contextual (maxSteps:=9999999) (disch:=first | omega | simp only [go_sem]<;>omega | refine ib ?_;kernel_rfl) only [go_sem,seval,↓reduceIte,f0,f3,hl,qw5,qw6,hn]
      exact ih (i+1) _ _ ⟨f0,rfl,by omega,by rw [qe6 l i hl,ha,hn];rfl⟩ (by omega)
     ·simp only [Bool.not_eq_true]at hn
      rw [qg1 l i hl hn]
      simp -implicitDefEqProofs -dsimp +contextual (maxSteps:=9999999) (disch:=first | omega | simp only [go_sem]<;>omega | refine ib ?_;kernel_rfl) only [go_sem,seval,↓reduceIte,f0,f3,hl,qw5,qw6,hn]
    ·rw [List.take_of_length_le (by omega)]at ha
     simp -implicitDefEqProofs -dsimp +contextual (maxSteps:=9999999) (disch:=first | omega | simp only [go_sem]<;>omega | refine ib ?_;kernel_rfl) only [go_sem,seval,↓reduceIte,f0,f3,hl]
     have hg:l.getD 0 0=l[0]:=by rw [List.getD_eq_getElem?_getD,List.getElem?_eq_getElem (by omega)];rfl
     simp only [qfw,hg,hs,ha,Bool.and_true]
     simp;omega
   ·simp only [Bool.not_eq_true]at hs
    have hg:l.getD 0 0=l[0]:=by rw [List.getD_eq_getElem?_getD,List.getElem?_eq_getElem (by omega)];rfl
    simp -implicitDefEqProofs -dsimp +contextual (maxSteps:=9999999) (disch:=first | omega | simp only [go_sem]<;>omega | refine ib ?_;kernel_rfl) only [go_sem,seval,↓reduceIte,h0,h16,qw5,qw6,hs]
    simp only [qfw,hg,hs,Bool.and_false,Bool.false_and]
@[go_sem] theorem qNu (l:List UInt8) (hl:l.length≤1000000000000):fn C 244 [] [.str l]=some (.bool (qfw l),[]):=by
 rw [qaa Tryz.func244 rfl rfl Tryz.results244 qEp.1 rfl rfl (by kernel_rfl)]
 by_cases h0:l=[]
 ·subst h0
  simp -implicitDefEqProofs -dsimp +contextual (maxSteps:=9999999) (disch:=first | omega | simp only [go_sem]<;>omega | refine ib ?_;kernel_rfl) only [go_sem,seval,↓reduceIte]
  rfl
 ·have hpos:0<l.length:=List.length_pos_iff.2 h0
  by_cases h16:16<l.length
  ·simp -implicitDefEqProofs -dsimp +contextual (maxSteps:=9999999) (disch:=first | omega | simp only [go_sem]<;>omega | refine ib ?_;kernel_rfl) only [go_sem,seval,↓reduceIte,h0,h16]
   simp [qfw];omega
  ·have hg:l.getD 0 0=l[0]:=by rw [List.getD_eq_getElem?_getD,List.getElem?_eq_getElem (by omega)];rfl
   by_cases hs:qen l[0]=true
   ·simp -implicitDefEqProofs -dsimp +contextual (maxSteps:=9999999) (disch:=first | omega | simp only [go_sem]<;>omega | refine ib ?_;kernel_rfl) only [go_sem,seval,↓reduceIte,h0,h16,hs,hpos]
    refine (qaj (fun (i:Nat) f H=>f 0= .str l∧f 19= .int .i64 (l.length:Int)∧f 20= .int .i64 (i:Int)∧i≤l.length∧(l.take i).all qdD=true) (fun i=>l.length - i) (fun _=>some (.bool (qfw l),[])) ?_ 0 _ _ ⟨rfl,rfl,rfl,by omega,rfl⟩)
    rintro i f H ⟨f0,f19,f20,hi,ha⟩ ih
    by_cases hl:i<l.length
    ·have hc:=qdO l[i]
     by_cases hsm:qen l[i]=true
     ·have hn:qdD l[i]=true:=by simp [qdD,hsm]
      simp -implicitDefEqProofs -dsimp +contextual (maxSteps:=9999999) (disch:=first | omega | simp only [go_sem]<;>omega | refine ib ?_;kernel_rfl) only [go_sem,seval,↓reduceIte,f0,f19,f20,hl,hsm]
      exact ih (i+1) _ _ ⟨f0,f19,rfl,by omega,by rw [qe6 l i hl,ha,hn];rfl⟩ (by omega)
     ·simp only [Bool.not_eq_true]at hsm
      by_cases h48:48≤l[i].toNat
      ·by_cases h57:l[i].toNat≤57
       ·have hn:qdD l[i]=true:=by simp [qdD,h48,h57]
        simp -implicitDefEqProofs -dsimp +contextual (maxSteps:=9999999) (disch:=first | omega | simp only [go_sem]<;>omega | refine ib ?_;kernel_rfl) only [go_sem,seval,↓reduceIte,f0,f19,f20,hl,hsm,h48,h57]
        exact ih (i+1) _ _ ⟨f0,f19,rfl,by omega,by rw [qe6 l i hl,ha,hn];rfl⟩ (by omega)
       ·have hn:qdD l[i]=false:=by simp [qdD,hsm];omega
        rw [qg1 l i hl hn]
        simp -implicitDefEqProofs -dsimp +contextual (maxSteps:=9999999) (disch:=first | omega | simp only [go_sem]<;>omega | refine ib ?_;kernel_rfl) only [go_sem,seval,↓reduceIte,f0,f19,f20,hl,hsm,h48,h57]
      ·by_cases h45:l[i].toNat=45
       ·have hn:qdD l[i]=true:=by simp [qdD,h45]
        have hs45:fn C 268 [] [.int .u8 45]=some (.bool false,[]):=qL7 45
        simp -implicitDefEqProofs -dsimp +contextual (maxSteps:=9999999) (disch:=first | omega | simp only [go_sem]<;>omega | refine ib ?_;kernel_rfl) only [go_sem,seval,↓reduceIte,f0,f19,f20,hl,hsm,h48,h45,hs45]
        exact ih (i+1) _ _ ⟨f0,f19,rfl,by omega,by rw [qe6 l i hl,ha,hn];rfl⟩ (by omega)
       ·have hn:qdD l[i]=false:=by simp [qdD,hsm];omega
        rw [qg1 l i hl hn]
        simp -implicitDefEqProofs -dsimp +contextual (maxSteps:=9999999) (disch:=first | omega | simp only [go_sem]<;>omega | refine ib ?_;kernel_rfl) only [go_sem,seval,↓reduceIte,f0,f19,f20,hl,hsm,h48,h45]
    ·rw [List.take_of_length_le (by omega)]at ha
     simp -implicitDefEqProofs -dsimp +contextual (maxSteps:=9999999) (disch:=first | omega | simp only [go_sem]<;>omega | refine ib ?_;kernel_rfl) only [go_sem,seval,↓reduceIte,f0,f19,f20,hl]
     simp only [qfw,hg,hs,ha,Bool.and_true]
     simp;omega
   ·simp only [Bool.not_eq_true]at hs
    simp -implicitDefEqProofs -dsimp +contextual (maxSteps:=9999999) (disch:=first | omega | simp only [go_sem]<;>omega | refine ib ?_;kernel_rfl) only [go_sem,seval,↓reduceIte,h0,h16,hs,hpos]
    simp only [qfw,hg,hs,Bool.and_false,Bool.false_and]
structure It where
 k:List UInt8
 v:List UInt8
 n:Int
 g:Bool
deriving DecidableEq
def It.cs (x:It):List AVal:=[.str x.k,.str x.v,.int .i64 x.n,.bool x.g]
def qa6:It:=⟨[],[],0,false⟩
@[go_sem] theorem qe7:qa6.k=[]:=rfl
@[go_sem] theorem qe8:qa6.v=[]:=rfl
@[go_sem] theorem qe9:qa6.n=0:=rfl
@[go_sem] theorem qfa:qa6.g=false:=rfl
@[go_sem] theorem It.cs_eq (x:It):x.cs=[.str x.k,.str x.v,.int .i64 x.n,.bool x.g]:=rfl
@[go_sem] theorem It.ones_cs (l:List It):qcb (l.map It.cs)=true:=qcu _ _ fun x=>rfl
@[go_sem] theorem It.clos_cs (l:List It):(l.map It.cs).all qbN=true:=qaV _ (fun _=>rfl) l
@[go_sem] theorem It.ok_cs (l:List It):qav (l.map It.cs)=decide (l.length≤1073741824):=qbh _ (fun _=>rfl) (fun _=>rfl) l
@[go_sem] theorem It.eta (x:It):(⟨x.k,x.v,x.n,x.g⟩:It)=x:=rfl
@[go_sem] theorem It.set_cs (l:List It) (j:Nat) (k v:List UInt8) (n:Int) (g:Bool):(l.map It.cs).set j [.str k,.str v,.int .i64 n,.bool g]=(l.set j ⟨k,v,n,g⟩).map It.cs:=by rw [List.map_set];rfl
@[go_sem] theorem It.app_cs (l:List It) (k v:List UInt8) (n:Int) (g:Bool):l.map It.cs++[[.str k,.str v,.int .i64 n,.bool g]]=(l++[(⟨k,v,n,g⟩:It)]).map It.cs:=by rw [List.map_append];rfl
theorem It.eq_iff (x y:It):x=y↔x.k=y.k∧x.v=y.v∧x.n=y.n∧x.g=y.g:=by cases x;cases y;simp
def qsW (x:It):Bool:=qx3 x.k&&decide (x.v.length≤32)&&decide (1≤x.n)&&decide (x.n≤1073741824)
@[go_sem] theorem qNv (k v : List UInt8) (n : Int) (g : Bool) : fn C 181 [] [.agg [.str k, .str v, .int .i64 n, .bool g]] = some (.bool (qsW ⟨k, v, n, g⟩), []) := by
  rw [qaa Tryz.func181 rfl rfl Tryz.results181 qDQ.1 rfl rfl (by kernel_rfl)]
  simp -implicitDefEqProofs -dsimp +contextual (maxSteps := 9999999) (disch := first | omega | simp only [go_sem] <;> omega | refine ib ?_; kernel_rfl) only [go_sem, seval, ↓reduceIte]
  (repeat' (refine qae (fun _ => ?_) (fun _ => ?_))) <;> exact qas (by simp [qsW, *]; try omega)
@[go_sem] theorem qNw (k v : List UInt8) (n : Int) (g : Bool) (hk : k.length ≤ 9223372036854775807) : fn C 259 [] [.agg [.str k, .str v, .int .i64 n, .bool g]] = some (.bool (qsW ⟨k, v, n, g⟩), []) := by
  rw [qaa Tryz.func259 rfl rfl Tryz.results259 qEB.1 rfl rfl (by kernel_rfl)]
  simp -implicitDefEqProofs -dsimp +contextual (maxSteps := 9999999) (disch := first | omega | simp only [go_sem] <;> omega | refine ib ?_; kernel_rfl) only [go_sem, seval, ↓reduceIte]
  (repeat' (refine qae (fun _ => ?_) (fun _ => ?_))) <;> exact qas (by simp [qsW, *]; try omega)
@[go_sem] theorem qJT (a b a' b':List UInt8) (c c':Int) (d d':Bool):eqF E.P 8 88 (.agg [.str a,.str b,.int .i64 c,.bool d]) (.agg [.str a',.str b',.int .i64 c',.bool d'])=some (decide ((⟨a,b,c,d⟩:It)=⟨a',b',c',d'⟩)):=by
 have u26:E.P.underlying 88=_:=Tryz.underlying88
 have u9:E.P.underlying 9=_:=Tryz.underlying9
 have u3:E.P.underlying 3=_:=Tryz.underlying3
 have u4:E.P.underlying 4=_:=Tryz.underlying4
 have hs:E.P.stoodInHeld 88=false:=by kernel_rfl
 simp [eqF,qoi,u26,u9,u3,u4,hs,tq9.1,tq9.2.1,tq3.1,tq3.2.1,tq4.1,tq4.2.1,mkV,qcD,Bool.and_assoc,←Bool.decide_and]
@[go_sem] theorem e78 (a b:List It) (hl:a.length≤9223372036854775807):fn C 78 [] [.slice 4 (a.map It.cs),.slice 4 (b.map It.cs)]=some (.bool (decide (a=b)),[]):=by
 rw [qaa Tryz.func78 rfl rfl Tryz.results78 qJr.1 rfl rfl (by kernel_rfl)]
 simp -implicitDefEqProofs -dsimp +contextual (maxSteps:=9999999) (disch:=first | omega | simp only [go_sem]<;>omega | refine ib ?_;kernel_rfl) only [go_sem,seval,↓reduceIte]
 (repeat' (refine qae (fun _=>?_) (fun _=>?_)))
 ·rename_i h1
  refine (qaj (fun i f H=>f 0= .slice 4 (a.map It.cs)∧f 1= .slice 4 (b.map It.cs)∧f 5= .int .i64 (i:Nat)∧H=qac.nil∧i≤a.length∧a.take i=b.take i) (fun i=>a.length - i) (fun i=>some (.bool (decide (a=b)),[])) ?_ 0 _ _ ⟨rfl,rfl,rfl,rfl,by omega,rfl⟩).trans rfl
  rintro i f _ ⟨h0,h2,h5,rfl,hi,ht⟩ ih
  by_cases hl:i<a.length
  ·simp -implicitDefEqProofs -dsimp +contextual (maxSteps:=9999999) (disch:=first | omega | simp only [go_sem]<;>omega | refine ib ?_;kernel_rfl) only [go_sem,seval,↓reduceIte,h0,h2,h5,hl,h1]
   (repeat' (refine qae (fun _=>?_) (fun _=>?_)))
   ·rename_i he
    refine ih (i+1) _ _ ⟨h0,h2,rfl,rfl,by omega,?_⟩ (by omega)
    rw [List.take_succ_eq_append_getElem hl,List.take_succ_eq_append_getElem (by omega),ht,he]
   ·rename_i he
    have:¬a=b:=fun e=>he (by subst e;rfl)
    exact qas (by simp [this])
  ·simp -implicitDefEqProofs -dsimp +contextual (maxSteps:=9999999) (disch:=first | omega | simp only [go_sem]<;>omega | refine ib ?_;kernel_rfl) only [go_sem,seval,↓reduceIte,h0,h2,h5,hl]
   obtain rfl:i=a.length:=by omega
   have:a=b:=by rw [List.take_length,h1,List.take_length]at ht;exact ht
   exact qas (by simp [this])
 ·rename_i h
  have:¬a=b:=fun e=>h (by rw [e])
  exact qas (by simp [this])
structure En where
 name:List UInt8
 id:Nat
 fr:Int
 un:Int
 ix:Int
 tag:List UInt8
deriving DecidableEq
def En.cs (e:En):List AVal:=[.str e.name,.int .u64 (e.id:Int),.int .i64 e.fr,.int .i64 e.un,.int .i64 e.ix,.str e.tag]
@[go_sem] theorem En.cs_eq (e:En):e.cs=[.str e.name,.int .u64 (e.id:Int),.int .i64 e.fr,.int .i64 e.un,.int .i64 e.ix,.str e.tag]:=rfl
def qA9 (n:Int):Nat:=(n % 18446744073709551616).toNat
theorem qdb (n:Int):IntKind.u64.wrap n=(qA9 n:Int):=by rw [IntKind.wrap_u64,qA9];omega
theorem qfx (n:Int):qA9 n≤18446744073709551615:=by rw [qA9];omega
structure En.ok (e:En):Prop where
 id:e.id≤18446744073709551615
 f1 : -9223372036854775808≤e.fr
 f2:e.fr≤9223372036854775807
 u1 : -9223372036854775808≤e.un
 u2:e.un≤9223372036854775807
 i1 : -9223372036854775808≤e.ix
 i2:e.ix≤9223372036854775807
theorem En.eq_iff (x y:En):x=y↔(x.name=y.name∧x.id=y.id∧x.fr=y.fr∧x.un=y.un∧x.ix=y.ix∧x.tag=y.tag):=by
 cases x;cases y;simp
structure Pr where
 e:En
 since:Int
 under:Int
deriving DecidableEq
def Pr.cs (p:Pr):List AVal:=[.str p.e.name,.int .u64 (p.e.id:Int),.int .i64 p.e.fr,.int .i64 p.e.un,.int .i64 p.e.ix,.str p.e.tag,.int .i64 p.since,.int .i64 p.under]
@[go_sem] theorem Pr.cs_eq (p:Pr):p.cs=[.str p.e.name,.int .u64 (p.e.id:Int),.int .i64 p.e.fr,.int .i64 p.e.un,.int .i64 p.e.ix,.str p.e.tag,.int .i64 p.since,.int .i64 p.under]:=rfl
structure Fg where
 bit:Int
 p:Pr
deriving DecidableEq
def Fg.cs (x:Fg):List AVal:=[.int .i64 x.bit,.str x.p.e.name,.int .u64 (x.p.e.id:Int),.int .i64 x.p.e.fr,.int .i64 x.p.e.un,.int .i64 x.p.e.ix,.str x.p.e.tag,.int .i64 x.p.since,.int .i64 x.p.under]
@[go_sem] theorem Fg.cs_eq (x:Fg):x.cs=[.int .i64 x.bit,.str x.p.e.name,.int .u64 (x.p.e.id:Int),.int .i64 x.p.e.fr,.int .i64 x.p.e.un,.int .i64 x.p.e.ix,.str x.p.e.tag,.int .i64 x.p.since,.int .i64 x.p.under]:=rfl
structure Wn where
 top:Int
 low:Nat
 high:Nat
deriving DecidableEq
structure Se where
 id:Nat
 nonce:Nat
 peer:En
 role:Int
 state:Int
 send:List UInt8
 hear:List UInt8
 epoch:Int
 count:Int
 since:Int
 seq:Int
 seen:Wn
 used:Int
deriving DecidableEq
def Se.cs (s:Se):List AVal:=[.int .u64 (s.id:Int),.int .u64 (s.nonce:Int),.str s.peer.name,.int .u64 (s.peer.id:Int),.int .i64 s.peer.fr,.int .i64 s.peer.un,.int .i64 s.peer.ix,.str s.peer.tag,.int .i64 s.role,.int .i64 s.state,.str s.send,.str s.hear,.int .i64 s.epoch,.int .i64 s.count,.int .i64 s.since,.int .i64 s.seq,.int .i64 s.seen.top,.int .u64 (s.seen.low:Int),.int .u64 (s.seen.high:Int),.int .i64 s.used]
@[go_sem] theorem Se.cs_eq (s:Se):s.cs=[.int .u64 (s.id:Int),.int .u64 (s.nonce:Int),.str s.peer.name,.int .u64 (s.peer.id:Int),.int .i64 s.peer.fr,.int .i64 s.peer.un,.int .i64 s.peer.ix,.str s.peer.tag,.int .i64 s.role,.int .i64 s.state,.str s.send,.str s.hear,.int .i64 s.epoch,.int .i64 s.count,.int .i64 s.since,.int .i64 s.seq,.int .i64 s.seen.top,.int .u64 (s.seen.low:Int),.int .u64 (s.seen.high:Int),.int .i64 s.used]:=rfl
structure Ms where
 kind:Int
 rid:Int
 ver:Int
 err:Int
 id:Nat
 has:Bool
 gone:Bool
 key:List UInt8
 val:List UInt8
 ents:List En
 items:List It
deriving DecidableEq
def Ms.cs (m:Ms):List AVal:=[.int .i64 m.kind,.int .i64 m.rid,.int .i64 m.ver,.int .i64 m.err,.int .u64 (m.id:Int),.bool m.has,.bool m.gone,.str m.key,.str m.val,.slice 6 (m.ents.map En.cs),.slice 4 (m.items.map It.cs)]
@[go_sem] theorem Ms.cs_eq (m:Ms):m.cs=[.int .i64 m.kind,.int .i64 m.rid,.int .i64 m.ver,.int .i64 m.err,.int .u64 (m.id:Int),.bool m.has,.bool m.gone,.str m.key,.str m.val,.slice 6 (m.ents.map En.cs),.slice 4 (m.items.map It.cs)]:=rfl
structure Pd where
 rid:Int
 why:Int
 job:Int
 til:Int
 tries:Int
 session:Nat
 to:En
 m:Ms
deriving DecidableEq
def Pd.cs (p:Pd):List AVal:=[.int .i64 p.rid,.int .i64 p.why,.int .i64 p.job,.int .i64 p.til,.int .i64 p.tries,.int .u64 (p.session:Int),.str p.to.name,.int .u64 (p.to.id:Int),.int .i64 p.to.fr,.int .i64 p.to.un,.int .i64 p.to.ix,.str p.to.tag,.int .i64 p.m.kind,.int .i64 p.m.rid,.int .i64 p.m.ver,.int .i64 p.m.err,.int .u64 (p.m.id:Int),.bool p.m.has,.bool p.m.gone,.str p.m.key,.str p.m.val,.slice 6 (p.m.ents.map En.cs),.slice 4 (p.m.items.map It.cs)]
@[go_sem] theorem Pd.cs_eq (p:Pd):p.cs=[.int .i64 p.rid,.int .i64 p.why,.int .i64 p.job,.int .i64 p.til,.int .i64 p.tries,.int .u64 (p.session:Int),.str p.to.name,.int .u64 (p.to.id:Int),.int .i64 p.to.fr,.int .i64 p.to.un,.int .i64 p.to.ix,.str p.to.tag,.int .i64 p.m.kind,.int .i64 p.m.rid,.int .i64 p.m.ver,.int .i64 p.m.err,.int .u64 (p.m.id:Int),.bool p.m.has,.bool p.m.gone,.str p.m.key,.str p.m.val,.slice 6 (p.m.ents.map En.cs),.slice 4 (p.m.items.map It.cs)]:=rfl
structure Jb where
 id:Int
 kind:Int
 phase:Int
 hops:Int
 tries:Int
 til:Int
 key:List UInt8
 val:List UInt8
 owner:En
 item:It
 acks:Int
 waits:Int
 asked:List (List UInt8)
 back:En
 backRid:Int
 backJob:Int
deriving DecidableEq
def Jb.cs (j:Jb):List AVal:=[.int .i64 j.id,.int .i64 j.kind,.int .i64 j.phase,.int .i64 j.hops,.int .i64 j.tries,.int .i64 j.til,.str j.key,.str j.val,.str j.owner.name,.int .u64 (j.owner.id:Int),.int .i64 j.owner.fr,.int .i64 j.owner.un,.int .i64 j.owner.ix,.str j.owner.tag,.str j.item.k,.str j.item.v,.int .i64 j.item.n,.bool j.item.g,.int .i64 j.acks,.int .i64 j.waits,.slice 1 (j.asked.map qaG),.str j.back.name,.int .u64 (j.back.id:Int),.int .i64 j.back.fr,.int .i64 j.back.un,.int .i64 j.back.ix,.str j.back.tag,.int .i64 j.backRid,.int .i64 j.backJob]
@[go_sem] theorem Jb.cs_eq (j:Jb):j.cs=[.int .i64 j.id,.int .i64 j.kind,.int .i64 j.phase,.int .i64 j.hops,.int .i64 j.tries,.int .i64 j.til,.str j.key,.str j.val,.str j.owner.name,.int .u64 (j.owner.id:Int),.int .i64 j.owner.fr,.int .i64 j.owner.un,.int .i64 j.owner.ix,.str j.owner.tag,.str j.item.k,.str j.item.v,.int .i64 j.item.n,.bool j.item.g,.int .i64 j.acks,.int .i64 j.waits,.slice 1 (j.asked.map qaG),.str j.back.name,.int .u64 (j.back.id:Int),.int .i64 j.back.fr,.int .i64 j.back.un,.int .i64 j.back.ix,.str j.back.tag,.int .i64 j.backRid,.int .i64 j.backJob]:=rfl
structure Rs where
 job:Int
 kind:Int
 ver:Int
 key:List UInt8
 val:List UInt8
 has:Bool
 gone:Bool
 err:Int
deriving DecidableEq
def Rs.cs (r:Rs):List AVal:=[.int .i64 r.job,.int .i64 r.kind,.int .i64 r.ver,.str r.key,.str r.val,.bool r.has,.bool r.gone,.int .i64 r.err]
@[go_sem] theorem Rs.cs_eq (r:Rs):r.cs=[.int .i64 r.job,.int .i64 r.kind,.int .i64 r.ver,.str r.key,.str r.val,.bool r.has,.bool r.gone,.int .i64 r.err]:=rfl
def qaw (n:Nat):List AVal:=[.int .u64 (n:Int)]
@[go_sem] theorem qFr (n:Nat):qaw n=[.int .u64 (n:Int)]:=rfl
structure Nd where
 me:En
 clock:Int
 psk:List UInt8
 gateI:Int
 gateK:List UInt8
 ready:Bool
 pred:List Pr
 list:List Pr
 fingers:List Fg
 sessions:List Se
 pends:List Pd
 items:List It
 jobs:List Jb
 rid:Int
 jobId:Int
 draws:List Nat
 results:List Rs
deriving DecidableEq
@[go_sem] theorem qHZ (l:List (En)):qcb (l.map En.cs)=true:=qcu _ _ fun _=>rfl
@[go_sem] theorem qH0 (l:List (En)):(l.map En.cs).all qbN=true:=qaV _ (fun _=>rfl) l
@[go_sem] theorem qH1 (l:List (En)):qck (l.map En.cs)=true:=qbU _ (fun _=>rfl) l
@[go_sem] theorem qL8 (l:List (En)):qav (l.map En.cs)=decide (l.length≤1073741824):=qbh _ (fun _=>rfl) (fun _=>rfl) l
@[go_sem] theorem qsX (l:List (Pr)):qcb (l.map Pr.cs)=true:=qcu _ _ fun _=>rfl
@[go_sem] theorem qmN (l:List (Pr)):(l.map Pr.cs).all qbN=true:=qaV _ (fun _=>rfl) l
@[go_sem] theorem qH2 (l:List (Pr)):qck (l.map Pr.cs)=true:=qbU _ (fun _=>rfl) l
@[go_sem] theorem qL9 (l:List (Pr)):qav (l.map Pr.cs)=decide (l.length≤1073741824):=qbh _ (fun _=>rfl) (fun _=>rfl) l
@[go_sem] theorem qH3 (l:List (Fg)):(l.map Fg.cs).all qbN=true:=qaV _ (fun _=>rfl) l
@[go_sem] theorem qH4 (l:List (Fg)):qck (l.map Fg.cs)=true:=qbU _ (fun _=>rfl) l
@[go_sem] theorem qH5 (l:List (Fg)):qav (l.map Fg.cs)=decide (l.length≤1073741824):=qbh _ (fun _=>rfl) (fun _=>rfl) l
@[go_sem] theorem qH6 (l:List (Se)):(l.map Se.cs).all qbN=true:=qaV _ (fun _=>rfl) l
@[go_sem] theorem qH7 (l:List (Se)):qck (l.map Se.cs)=true:=qbU _ (fun _=>rfl) l
@[go_sem] theorem qMa (l:List (Se)):qav (l.map Se.cs)=decide (l.length≤1073741824):=qbh _ (fun _=>rfl) (fun _=>rfl) l
@[go_sem] theorem qH8 (l:List (Pd)):(l.map Pd.cs).all qbN=true:=qaV _ (fun _=>rfl) l
@[go_sem] theorem qMb (l:List (Pd)):qav (l.map Pd.cs)=decide (l.length≤1073741824):=qbh _ (fun _=>rfl) (fun _=>rfl) l
@[go_sem] theorem qsY (l:List (Jb)):qcb (l.map Jb.cs)=true:=qcu _ _ fun _=>rfl
@[go_sem] theorem qsZ (l:List (Jb)):(l.map Jb.cs).all qbN=true:=qaV _ (fun _=>rfl) l
@[go_sem] theorem qMc (l:List (Jb)):qav (l.map Jb.cs)=decide (l.length≤1073741824):=qbh _ (fun _=>rfl) (fun _=>rfl) l
@[go_sem] theorem qH9 (l:List (Rs)):qcb (l.map Rs.cs)=true:=qcu _ _ fun _=>rfl
@[go_sem] theorem qIa (l:List (Rs)):(l.map Rs.cs).all qbN=true:=qaV _ (fun _=>rfl) l
@[go_sem] theorem qIb (l:List (Rs)):qck (l.map Rs.cs)=true:=qbU _ (fun _=>rfl) l
@[go_sem] theorem qMd (l:List (Rs)):qav (l.map Rs.cs)=decide (l.length≤1073741824):=qbh _ (fun _=>rfl) (fun _=>rfl) l
@[go_sem] theorem qBa (l:List (List UInt8)):qcb (l.map qaG)=true:=qcu _ _ fun _=>rfl
@[go_sem] theorem qBb (l:List (List UInt8)):(l.map qaG).all qbN=true:=qaV _ (fun _=>rfl) l
@[go_sem] theorem qBc (l:List (List UInt8)):qck (l.map qaG)=true:=qbU _ (fun _=>rfl) l
@[go_sem] theorem qFs (l:List (List UInt8)):qav (l.map qaG)=decide (l.length≤1073741824):=qbh _ (fun _=>rfl) (fun _=>rfl) l
@[go_sem] theorem qFt (l:List (Nat)):qav (l.map qaw)=decide (l.length≤1073741824):=qbh _ (fun _=>rfl) (fun _=>rfl) l
def qbm (e:En):Bool:=decide (1000<e.name.length)|| decide (1000<e.tag.length)
structure En.small (e:En):Prop where
 n:e.name.length≤1000
 t:e.tag.length≤1000
theorem qb0 {e:En} (h:qbm e=false):e.small:=by
 simp only [qbm,Bool.or_eq_false_iff,decide_eq_false_iff_not,Nat.not_lt]at h
 exact ⟨h.1,h.2⟩
def qdT (l:List Pr):Bool:=decide (40<l.length)|| l.any fun p=>qbm p.e
def qia (s:Se):Bool:=decide (300<s.send.length)|| decide (300<s.hear.length)|| qbm s.peer
def qfy (l:List Se):Bool:=decide (60<l.length)|| l.any qia
def qcr (x:It):Bool:=decide (300<x.k.length)|| decide (300<x.v.length)
def qcs (m:Ms):Bool:=decide (300<m.key.length)|| decide (300<m.val.length)|| decide (30<m.ents.length)|| decide (30<m.items.length)|| m.ents.any qbm|| m.items.any qcr
def qd6 (l:List Pd):Bool:=decide (50<l.length)|| l.any fun p=>qbm p.to|| qcs p.m
def qcS (j:Jb):Bool:=decide (300<j.key.length)|| decide (300<j.val.length)|| decide (300<j.item.k.length)|| decide (300<j.item.v.length)|| qbm j.owner|| qbm j.back|| decide (30<j.asked.length)|| j.asked.any fun a=>decide (1000<a.length)
def qfz (l:List It):Bool:=decide (60<l.length)|| l.any qcr
def qbn (n:Nd):Bool:=qbm n.me|| decide (300<n.psk.length)|| decide (300<n.gateK.length)|| qdT n.pred|| qdT n.list|| decide (70<n.fingers.length)|| qfy n.sessions|| qd6 n.pends|| qfz n.items|| decide (20<n.jobs.length)|| decide (60<n.draws.length)|| decide (40<n.results.length)|| (n.fingers.any fun x=>qbm x.p.e)|| n.jobs.any qcS|| n.results.any fun r=>decide (300<r.key.length)|| decide (300<r.val.length)
theorem qcT {α:Type} {p:α→Bool} {l:List α} {i:Nat} (hi:i<l.length) (h:p l[i]=true):l.any p=true:=List.any_eq_true.2 ⟨l[i],List.getElem_mem hi,h⟩
theorem qa5 {α:Type} {p:α→Bool} {l:List α} {i:Nat} (hi:i<l.length) (ha:(l.take i).any p=false) (h:p l[i]=false):(l.take (i+1)).any p=false:=by
 rw [List.take_succ_eq_append_getElem hi,List.any_append,ha];simp [h]
theorem qby {α:Type} {p:α→Bool} {l:List α} (ha:(l.take l.length).any p=false):l.any p=false:=by rwa [List.take_length]at ha
theorem qb1 {α:Type} {p:α→Bool} {l:List α} (ha:l.any p=false):∀x∈l,p x=false:=by
 intro x hx;rw [List.any_eq_false]at ha;simpa using ha x hx
def Nd.cs (n:Nd):List AVal:=[.str n.me.name,.int .u64 (n.me.id:Int),.int .i64 n.me.fr,.int .i64 n.me.un,.int .i64 n.me.ix,.str n.me.tag,.int .i64 n.clock,.str n.psk,.int .i64 n.gateI,.str n.gateK,.bool n.ready,.slice 8 (n.pred.map Pr.cs),.slice 8 (n.list.map Pr.cs),.slice 9 (n.fingers.map Fg.cs),.slice 20 (n.sessions.map Se.cs),.slice 23 (n.pends.map Pd.cs),.slice 4 (n.items.map It.cs),.slice 29 (n.jobs.map Jb.cs),.int .i64 n.rid,.int .i64 n.jobId,.slice 1 (n.draws.map qaw),.slice 8 (n.results.map Rs.cs)]
@[reducible] def aNd (n:Nd):AVal:= .agg [.str n.me.name,.int .u64 (n.me.id:Int),.int .i64 n.me.fr,.int .i64 n.me.un,.int .i64 n.me.ix,.str n.me.tag,.int .i64 n.clock,.str n.psk,.int .i64 n.gateI,.str n.gateK,.bool n.ready,.slice 8 (n.pred.map Pr.cs),.slice 8 (n.list.map Pr.cs),.slice 9 (n.fingers.map Fg.cs),.slice 20 (n.sessions.map Se.cs),.slice 23 (n.pends.map Pd.cs),.slice 4 (n.items.map It.cs),.slice 29 (n.jobs.map Jb.cs),.int .i64 n.rid,.int .i64 n.jobId,.slice 1 (n.draws.map qaw),.slice 8 (n.results.map Rs.cs)]
@[go_sem] theorem qJU (n:Nd):aNd n= .agg [.str n.me.name,.int .u64 (n.me.id:Int),.int .i64 n.me.fr,.int .i64 n.me.un,.int .i64 n.me.ix,.str n.me.tag,.int .i64 n.clock,.str n.psk,.int .i64 n.gateI,.str n.gateK,.bool n.ready,.slice 8 (n.pred.map Pr.cs),.slice 8 (n.list.map Pr.cs),.slice 9 (n.fingers.map Fg.cs),.slice 20 (n.sessions.map Se.cs),.slice 23 (n.pends.map Pd.cs),.slice 4 (n.items.map It.cs),.slice 29 (n.jobs.map Jb.cs),.int .i64 n.rid,.int .i64 n.jobId,.slice 1 (n.draws.map qaw),.slice 8 (n.results.map Rs.cs)]:=rfl
@[go_sem] theorem qIc (n t n' t':List UInt8) (a b c d a' b' c' d':Int):eqF E.P 8 24 (.agg [.str n,.int .u64 a,.int .i64 b,.int .i64 c,.int .i64 d,.str t]) (.agg [.str n',.int .u64 a',.int .i64 b',.int .i64 c',.int .i64 d',.str t'])=some (decide (n=n'∧a=a'∧b=b'∧c=c'∧d=d'∧t=t')):=by
 have u1:E.P.underlying 24=_:=Tryz.underlying24
 have u2:E.P.underlying 9=_:=Tryz.underlying9
 have u3:E.P.underlying 3=_:=Tryz.underlying3
 have u4:E.P.underlying 22=_:=Tryz.underlying22
 have hs:E.P.stoodInHeld 24=false:=by kernel_rfl
 simp [eqF,qoi,u1,u2,u3,u4,hs,tq9.1,tq9.2.1,tq3.1,tq3.2.1,qsA.1,qsA.2.1,mkV,qcD,Bool.and_assoc,←Bool.decide_and]
@[go_sem] theorem qJV (n t n' t':List UInt8) (a b c d e f a' b' c' d' e' f':Int):eqF E.P 8 74 (.agg [.str n,.int .u64 a,.int .i64 b,.int .i64 c,.int .i64 d,.str t,.int .i64 e,.int .i64 f]) (.agg [.str n',.int .u64 a',.int .i64 b',.int .i64 c',.int .i64 d',.str t',.int .i64 e',.int .i64 f'])=some (decide ((n=n'∧a=a'∧b=b'∧c=c'∧d=d'∧t=t')∧e=e'∧f=f')):=by
 have u0:E.P.underlying 74=_:=Tryz.underlying74
 have u1:E.P.underlying 24=_:=Tryz.underlying24
 have u2:E.P.underlying 9=_:=Tryz.underlying9
 have u3:E.P.underlying 3=_:=Tryz.underlying3
 have u4:E.P.underlying 22=_:=Tryz.underlying22
 have hs:E.P.stoodInHeld 24=false:=by kernel_rfl
 have hp:E.P.stoodInHeld 74=false:=by kernel_rfl
 simp [eqF,qoi,u0,u1,u2,u3,u4,hs,hp,tq9.1,tq9.2.1,tq3.1,tq3.2.1,qsA.1,qsA.2.1,qAI.1,qAI.2.1,mkV,qcD,Bool.and_assoc,←Bool.decide_and]
@[go_sem] theorem e22 (e : En) (hn : e.name.length ≤ 9223372036854775807) (ht : e.tag.length ≤ 9223372036854775807) : fn C 22 [] [.agg [.str e.name, .int .u64 (e.id : Int), .int .i64 e.fr, .int .i64 e.un, .int .i64 e.ix, .str e.tag]] = some (.bool (qbm e), []) := by
  rw [qaa Tryz.func22 rfl rfl Tryz.results22 qI2.1 rfl rfl (by kernel_rfl)]
  simp -implicitDefEqProofs -dsimp +contextual (maxSteps := 9999999) (disch := first | omega | simp only [go_sem] <;> omega | refine ib ?_; kernel_rfl) only [go_sem, seval, ↓reduceIte]
  (repeat' (refine qae (fun _ => ?_) (fun _ => ?_))) <;> exact qas (by simp [qbm, *])
structure En.fit (e:En):Prop where
 n:e.name.length≤9223372036854775807
 t:e.tag.length≤9223372036854775807
structure Pr.fit (p:Pr):Prop where
 l:p.e.fit
structure Se.fit (x:Se):Prop where
 p:x.peer.fit
 s:x.send.length≤9223372036854775807
 h:x.hear.length≤9223372036854775807
structure It.fit (x:It):Prop where
 k:x.k.length≤9223372036854775807
 v:x.v.length≤9223372036854775807
structure Ms.fit (m:Ms):Prop where
 k:m.key.length≤9223372036854775807
 v:m.val.length≤9223372036854775807
 e:m.ents.length≤9223372036854775807
 i:m.items.length≤9223372036854775807
 es:∀e∈m.ents,e.fit
 is:∀x∈m.items,x.fit
structure Pd.fit (p:Pd):Prop where
 t:p.to.fit
 m:p.m.fit
structure Jb.fit (j:Jb):Prop where
 k:j.key.length≤9223372036854775807
 v:j.val.length≤9223372036854775807
 ik:j.item.fit
 o:j.owner.fit
 b:j.back.fit
 a:j.asked.length≤9223372036854775807
 al:∀s∈j.asked,s.length≤9223372036854775807
structure Rs.fit (r:Rs):Prop where
 k:r.key.length≤9223372036854775807
 v:r.val.length≤9223372036854775807
structure Nd.fit (n:Nd):Prop where
 me:n.me.fit
 psk:n.psk.length≤9223372036854775807
 gk:n.gateK.length≤9223372036854775807
 pl:n.pred.length≤9223372036854775807
 p:∀p∈n.pred,p.fit
 ll:n.list.length≤9223372036854775807
 l:∀p∈n.list,p.fit
 fl:n.fingers.length≤9223372036854775807
 f:∀f∈n.fingers,f.p.fit
 sl:n.sessions.length≤9223372036854775807
 s:∀s∈n.sessions,s.fit
 dl:n.pends.length≤9223372036854775807
 d:∀p∈n.pends,p.fit
 il:n.items.length≤9223372036854775807
 i:∀x∈n.items,x.fit
 jl:n.jobs.length≤9223372036854775807
 j:∀j∈n.jobs,j.fit
 wl:n.draws.length≤9223372036854775807
 rl:n.results.length≤9223372036854775807
 r:∀r∈n.results,r.fit
@[reducible] def I64 (n:Int):Prop:= -9223372036854775808≤n∧n≤9223372036854775807
@[reducible] def U64 (n:Nat):Prop:=n≤18446744073709551615
structure Pr.ok (p:Pr):Prop where
 e:p.e.ok
 s1 : -9223372036854775808≤p.since
 s2:p.since≤9223372036854775807
 u1 : -9223372036854775808≤p.under
 u2:p.under≤9223372036854775807
structure Rs.ok (r:Rs):Prop where
 j1 : -9223372036854775808≤r.job
 j2:r.job≤9223372036854775807
 k1 : -9223372036854775808≤r.kind
 k2:r.kind≤9223372036854775807
 v1 : -9223372036854775808≤r.ver
 v2:r.ver≤9223372036854775807
 e1 : -9223372036854775808≤r.err
 e2:r.err≤9223372036854775807
structure Fg.ok (x:Fg):Prop where
 b:I64 x.bit
 p:x.p.ok
structure It.ok (x:It):Prop where
 n:I64 x.n
structure Se.ok (x:Se):Prop where
 id:U64 x.id
 nonce:U64 x.nonce
 peer:x.peer.ok
 role:I64 x.role
 state:I64 x.state
 epoch:I64 x.epoch
 count:I64 x.count
 since:I64 x.since
 seq:I64 x.seq
 top:I64 x.seen.top
 low:U64 x.seen.low
 high:U64 x.seen.high
 used:I64 x.used
structure Ms.ok (m:Ms):Prop where
 kind:I64 m.kind
 rid:I64 m.rid
 ver:I64 m.ver
 err:I64 m.err
 id:U64 m.id
 ents:∀e∈m.ents,e.ok
 items:∀x∈m.items,x.ok
structure Pd.ok (p:Pd):Prop where
 rid:I64 p.rid
 why:I64 p.why
 job:I64 p.job
 til:I64 p.til
 tries:I64 p.tries
 session:U64 p.session
 to:p.to.ok
 m:p.m.ok
structure Jb.ok (j:Jb):Prop where
 id:I64 j.id
 kind:I64 j.kind
 phase:I64 j.phase
 hops:I64 j.hops
 tries:I64 j.tries
 til:I64 j.til
 owner:j.owner.ok
 item:j.item.ok
 acks:I64 j.acks
 waits:I64 j.waits
 back:j.back.ok
 backRid:I64 j.backRid
 backJob:I64 j.backJob
structure Nd.ok (n:Nd):Prop where
 me:n.me.ok
 clock:I64 n.clock
 gate:I64 n.gateI
 pred:∀p∈n.pred,p.ok
 list:∀p∈n.list,p.ok
 fingers:∀p∈n.fingers,p.ok
 sessions:∀p∈n.sessions,p.ok
 pends:∀p∈n.pends,p.ok
 items:∀p∈n.items,p.ok
 jobs:∀p∈n.jobs,p.ok
 rid:I64 n.rid
 jobId:I64 n.jobId
 draws:∀d∈n.draws,U64 d
 results:∀p∈n.results,p.ok
@[go_sem] theorem e50 (l:List Pr) (hl:l.length≤9223372036854775807) (hp:∀p∈l,p.fit):fn C 50 [] [.slice 8 (l.map Pr.cs)]=some (.bool (qdT l),[]):=by
 rw [qaa Tryz.func50 rfl rfl Tryz.results50 qJf.1 rfl rfl (by kernel_rfl)]
 unfold qdT
 by_cases hb:40<l.length
 ·simp -implicitDefEqProofs -dsimp +contextual (maxSteps:=9999999) (disch:=first | omega | simp only [go_sem]<;>omega | refine ib ?_;kernel_rfl) only [go_sem,seval,↓reduceIte,hb]
  try simp [hb]
 ·simp -implicitDefEqProofs -dsimp +contextual (maxSteps:=9999999) (disch:=first | omega | simp only [go_sem]<;>omega | refine ib ?_;kernel_rfl) only [go_sem,seval,↓reduceIte,hb]
  refine qeb l.length (fun i f H=>f 0= .slice 8 (l.map Pr.cs)∧f 3= .int .i64 (i:Nat)∧H=qac.nil∧(l.take i).any (fun p=>qbm p.e)=false) ?_ ?_ ⟨rfl,rfl,rfl,rfl⟩
  ·rintro i f _ hi ⟨h0,h3,rfl,ha⟩ ih
   have:=(hp _ (List.getElem_mem hi)).l.n
   have:=(hp _ (List.getElem_mem hi)).l.t
   simp -implicitDefEqProofs -dsimp +contextual (maxSteps:=9999999) (disch:=first | omega | simp only [go_sem]<;>omega | refine ib ?_;kernel_rfl) only [go_sem,seval,↓reduceIte,h0,h3,hi]
   (repeat' (refine qae (fun _=>?_) (fun _=>?_)))
   ·rename_i h;rw [qcT (p:=fun p=>qbm p.e) hi h]<;>simp
   ·rename_i h;exact ih _ _ ⟨h0,rfl,rfl,qa5 hi ha (by simpa using h)⟩
  ·rintro f _ ⟨h0,h3,rfl,ha⟩
   simp -implicitDefEqProofs -dsimp +contextual (maxSteps:=9999999) (disch:=first | omega | simp only [go_sem]<;>omega | refine ib ?_;kernel_rfl) only [go_sem,seval,↓reduceIte,h0,h3]
   rw [qby ha]<;>simp [hb]
@[go_sem] theorem qNx (s : Se) (h : s.fit) : fn C 146 [] [.agg [.int .u64 (s.id : Int), .int .u64 (s.nonce : Int), .str s.peer.name, .int .u64 (s.peer.id : Int), .int .i64 s.peer.fr, .int .i64 s.peer.un, .int .i64 s.peer.ix, .str s.peer.tag, .int .i64 s.role, .int .i64 s.state, .str s.send, .str s.hear, .int .i64 s.epoch, .int .i64 s.count, .int .i64 s.since, .int .i64 s.seq, .int .i64 s.seen.top, .int .u64 (s.seen.low : Int), .int .u64 (s.seen.high : Int), .int .i64 s.used]] = some (.bool (qia s), []) := by
  rw [qaa Tryz.func146 rfl rfl Tryz.results146 qDv.1 rfl rfl (by kernel_rfl)]
  have := h.p.n
  have := h.p.t
  have := h.s
  have := h.h
  simp -implicitDefEqProofs -dsimp +contextual (maxSteps := 9999999) (disch := first | omega | simp only [go_sem] <;> omega | refine ib ?_; kernel_rfl) only [go_sem, seval, ↓reduceIte]
  (repeat' (refine qae (fun _ => ?_) (fun _ => ?_))) <;> exact qas (by simp [qia, *])
@[go_sem] theorem e51 (l:List Se) (hl:l.length≤9223372036854775807) (hp:∀p∈l,p.fit):fn C 51 [] [.slice 20 (l.map Se.cs)]=some (.bool (qfy l),[]):=by
 rw [qaa Tryz.func51 rfl rfl Tryz.results51 qJg.1 rfl rfl (by kernel_rfl)]
 unfold qfy
 by_cases hb:60<l.length
 ·simp -implicitDefEqProofs -dsimp +contextual (maxSteps:=9999999) (disch:=first | omega | simp only [go_sem]<;>omega | refine ib ?_;kernel_rfl) only [go_sem,seval,↓reduceIte,hb]
  try simp [hb]
 ·simp -implicitDefEqProofs -dsimp +contextual (maxSteps:=9999999) (disch:=first | omega | simp only [go_sem]<;>omega | refine ib ?_;kernel_rfl) only [go_sem,seval,↓reduceIte,hb]
  refine qeb l.length (fun i f H=>f 0= .slice 20 (l.map Se.cs)∧f 3= .int .i64 (i:Nat)∧H=qac.nil∧(l.take i).any qia=false) ?_ ?_ ⟨rfl,rfl,rfl,rfl⟩
  ·rintro i f _ hi ⟨h0,h3,rfl,ha⟩ ih
   have:=hp _ (List.getElem_mem hi)
   simp -implicitDefEqProofs -dsimp +contextual (maxSteps:=9999999) (disch:=first | omega | simp only [go_sem]<;>omega | refine ib ?_;kernel_rfl) only [go_sem,seval,↓reduceIte,h0,h3,hi,this]
   (repeat' (refine qae (fun _=>?_) (fun _=>?_)))
   ·rename_i h;rw [qcT hi h]<;>simp
   ·rename_i h;exact ih _ _ ⟨h0,rfl,rfl,qa5 hi ha (by simpa using h)⟩
  ·rintro f _ ⟨h0,h3,rfl,ha⟩
   simp -implicitDefEqProofs -dsimp +contextual (maxSteps:=9999999) (disch:=first | omega | simp only [go_sem]<;>omega | refine ib ?_;kernel_rfl) only [go_sem,seval,↓reduceIte,h0,h3]
   rw [qby ha]<;>simp [hb]
@[go_sem] theorem e52 (l:List It) (hl:l.length≤9223372036854775807) (hp:∀x∈l,x.fit):fn C 52 [] [.slice 4 (l.map It.cs)]=some (.bool (qfz l),[]):=by
 rw [qaa Tryz.func52 rfl rfl Tryz.results52 qJh.1 rfl rfl (by kernel_rfl)]
 unfold qfz
 by_cases hb:60<l.length
 ·simp -implicitDefEqProofs -dsimp +contextual (maxSteps:=9999999) (disch:=first | omega | simp only [go_sem]<;>omega | refine ib ?_;kernel_rfl) only [go_sem,seval,↓reduceIte,hb]
  try simp [hb]
 ·simp -implicitDefEqProofs -dsimp +contextual (maxSteps:=9999999) (disch:=first | omega | simp only [go_sem]<;>omega | refine ib ?_;kernel_rfl) only [go_sem,seval,↓reduceIte,hb]
  refine qeb l.length (fun i f H=>f 0= .slice 4 (l.map It.cs)∧f 3= .int .i64 (i:Nat)∧H=qac.nil∧(l.take i).any qcr=false) ?_ ?_ ⟨rfl,rfl,rfl,rfl⟩
  ·rintro i f _ hi ⟨h0,h3,rfl,ha⟩ ih
   have:=(hp _ (List.getElem_mem hi)).k
   have:=(hp _ (List.getElem_mem hi)).v
   simp -implicitDefEqProofs -dsimp +contextual (maxSteps:=9999999) (disch:=first | omega | simp only [go_sem]<;>omega | refine ib ?_;kernel_rfl) only [go_sem,seval,↓reduceIte,h0,h3,hi]
   (repeat' (refine qae (fun _=>?_) (fun _=>?_)))
   ·rename_i h;rw [qcT (p:=qcr) hi (by simp [qcr,h])]<;>simp
   ·rename_i h h';rw [qcT (p:=qcr) hi (by simp [qcr,h'])]<;>simp
   ·rename_i h h';exact ih _ _ ⟨h0,rfl,rfl,qa5 hi ha (by simp [qcr];omega)⟩
  ·rintro f _ ⟨h0,h3,rfl,ha⟩
   simp -implicitDefEqProofs -dsimp +contextual (maxSteps:=9999999) (disch:=first | omega | simp only [go_sem]<;>omega | refine ib ?_;kernel_rfl) only [go_sem,seval,↓reduceIte,h0,h3]
   rw [qby ha]<;>simp [hb]
@[go_sem] theorem e53 (m:Ms) (h:m.fit):fn C 53 [] [.agg [.int .i64 m.kind,.int .i64 m.rid,.int .i64 m.ver,.int .i64 m.err,.int .u64 (m.id:Int),.bool m.has,.bool m.gone,.str m.key,.str m.val,.slice 6 (m.ents.map En.cs),.slice 4 (m.items.map It.cs)]]=some (.bool (qcs m),[]):=by
 rw [qaa Tryz.func53 rfl rfl Tryz.results53 qJi.1 rfl rfl (by kernel_rfl)]
 have:=h.k
 have:=h.v
 have:=h.e
 have:=h.i
 unfold qcs
 by_cases b1:300<m.key.length
 ·simp -implicitDefEqProofs -dsimp +contextual (maxSteps:=9999999) (disch:=first | omega | simp only [go_sem]<;>omega | refine ib ?_;kernel_rfl) only [go_sem,seval,↓reduceIte,b1]
  try simp [b1]
 by_cases b2:300<m.val.length
 ·simp -implicitDefEqProofs -dsimp +contextual (maxSteps:=9999999) (disch:=first | omega | simp only [go_sem]<;>omega | refine ib ?_;kernel_rfl) only [go_sem,seval,↓reduceIte,b1,b2]
  try simp [b2]
 by_cases b3:30<m.ents.length
 ·simp -implicitDefEqProofs -dsimp +contextual (maxSteps:=9999999) (disch:=first | omega | simp only [go_sem]<;>omega | refine ib ?_;kernel_rfl) only [go_sem,seval,↓reduceIte,b1,b2,b3]
  try simp [b3]
 by_cases b4:30<m.items.length
 ·simp -implicitDefEqProofs -dsimp +contextual (maxSteps:=9999999) (disch:=first | omega | simp only [go_sem]<;>omega | refine ib ?_;kernel_rfl) only [go_sem,seval,↓reduceIte,b1,b2,b3,b4]
  try simp [b4]
 simp -implicitDefEqProofs -dsimp +contextual (maxSteps:=9999999) (disch:=first | omega | simp only [go_sem]<;>omega | refine ib ?_;kernel_rfl) only [go_sem,seval,↓reduceIte,b1,b2,b3,b4]
 refine qeb m.ents.length (fun i f H=>f 1= .ptr 101 1 0 0∧f 3= .int .i64 (i:Nat)∧H 101=⟨1,.live,11,[m.cs],false⟩∧(m.ents.take i).any qbm=false) ?_ ?_ ⟨rfl,rfl,rfl,rfl⟩
 ·rintro i f H hi ⟨h1,h3,hH,ha⟩ ih
  have:=(h.es _ (List.getElem_mem hi)).n
  have:=(h.es _ (List.getElem_mem hi)).t
  simp -implicitDefEqProofs -dsimp +contextual (maxSteps:=9999999) (disch:=first | omega | simp only [go_sem]<;>omega | refine ib ?_;kernel_rfl) only [go_sem,seval,↓reduceIte,h1,h3,hH,hi]
  (repeat' (refine qae (fun _=>?_) (fun _=>?_)))
  ·rename_i h;rw [qcT hi h]<;>simp
  ·rename_i h;exact ih _ _ ⟨h1,rfl,hH,qa5 hi ha (by simpa using h)⟩
 ·rintro f H ⟨h1,h3,hH,ha⟩
  simp -implicitDefEqProofs -dsimp +contextual (maxSteps:=9999999) (disch:=first | omega | simp only [go_sem]<;>omega | refine ib ?_;kernel_rfl) only [go_sem,seval,↓reduceIte,h1,h3,hH]
  refine qeb m.items.length (fun i f H=>f 1= .ptr 101 1 0 0∧f 4= .int .i64 (i:Nat)∧H 101=⟨1,.live,11,[m.cs],false⟩∧(m.items.take i).any qcr=false) ?_ ?_ ⟨h1,rfl,hH,rfl⟩
  ·rintro i f H hi ⟨h1,h3,hH,ha2⟩ ih
   have:=(h.is _ (List.getElem_mem hi)).k
   have:=(h.is _ (List.getElem_mem hi)).v
   simp -implicitDefEqProofs -dsimp +contextual (maxSteps:=9999999) (disch:=first | omega | simp only [go_sem]<;>omega | refine ib ?_;kernel_rfl) only [go_sem,seval,↓reduceIte,h1,h3,hH,hi]
   (repeat' (refine qae (fun _=>?_) (fun _=>?_)))
   ·rename_i h;rw [qcT (p:=qcr) hi (by simp [qcr,h])]<;>simp
   ·rename_i h h';rw [qcT (p:=qcr) hi (by simp [qcr,h'])]<;>simp
   ·rename_i h h';exact ih _ _ ⟨h1,rfl,hH,qa5 hi ha2 (by simp [qcr];omega)⟩
  ·rintro f H ⟨h1,h3,hH,ha2⟩
   simp -implicitDefEqProofs -dsimp +contextual (maxSteps:=9999999) (disch:=first | omega | simp only [go_sem]<;>omega | refine ib ?_;kernel_rfl) only [go_sem,seval,↓reduceIte,h1,h3,hH]
   rw [qby ha,qby ha2]<;>simp [b1,b2,b3,b4]
@[go_sem] theorem e41 (l:List Pd) (hl:l.length≤9223372036854775807) (hp:∀x∈l,x.fit):fn C 41 [] [.slice 23 (l.map Pd.cs)]=some (.bool (qd6 l),[]):=by
 rw [qaa Tryz.func41 rfl rfl Tryz.results41 qJd.1 rfl rfl (by kernel_rfl)]
 unfold qd6
 by_cases hb:50<l.length
 ·simp -implicitDefEqProofs -dsimp +contextual (maxSteps:=9999999) (disch:=first | omega | simp only [go_sem]<;>omega | refine ib ?_;kernel_rfl) only [go_sem,seval,↓reduceIte,hb]
  try simp [hb]
 ·simp -implicitDefEqProofs -dsimp +contextual (maxSteps:=9999999) (disch:=first | omega | simp only [go_sem]<;>omega | refine ib ?_;kernel_rfl) only [go_sem,seval,↓reduceIte,hb]
  refine qeb l.length (fun i f H=>f 0= .slice 23 (l.map Pd.cs)∧f 3= .int .i64 (i:Nat)∧H=qac.nil∧(l.take i).any (fun p=>qbm p.to|| qcs p.m)=false) ?_ ?_ ⟨rfl,rfl,rfl,rfl⟩
  ·rintro i f _ hi ⟨h0,h3,rfl,ha⟩ ih
   have:=(hp _ (List.getElem_mem hi)).t.n
   have:=(hp _ (List.getElem_mem hi)).t.t
   have:=(hp _ (List.getElem_mem hi)).m
   simp -implicitDefEqProofs -dsimp +contextual (maxSteps:=9999999) (disch:=first | omega | simp only [go_sem]<;>omega | refine ib ?_;kernel_rfl) only [go_sem,seval,↓reduceIte,h0,h3,hi]
   (repeat' (refine qae (fun _=>?_) (fun _=>?_)))
   ·rename_i h;rw [qcT (p:=fun p:Pd=>qbm p.to|| qcs p.m) hi (by simp [h])]<;>simp
   ·rename_i h h';rw [qcT (p:=fun p:Pd=>qbm p.to|| qcs p.m) hi (by simp [h'])]<;>simp
   ·rename_i h h';exact ih _ _ ⟨h0,rfl,rfl,qa5 hi ha (by simp [h,h'])⟩
  ·rintro f _ ⟨h0,h3,rfl,ha⟩
   simp -implicitDefEqProofs -dsimp +contextual (maxSteps:=9999999) (disch:=first | omega | simp only [go_sem]<;>omega | refine ib ?_;kernel_rfl) only [go_sem,seval,↓reduceIte,h0,h3]
   rw [qby ha]<;>simp [hb]
structure Se.small (x:Se):Prop where
 p:x.peer.small
 s:x.send.length≤300
 h:x.hear.length≤300
structure It.small (x:It):Prop where
 k:x.k.length≤300
 v:x.v.length≤300
structure Ms.small (m:Ms):Prop where
 k:m.key.length≤300
 v:m.val.length≤300
 e:m.ents.length≤30
 i:m.items.length≤30
 es:∀e∈m.ents,e.small
 is:∀x∈m.items,x.small
structure Pd.small (p:Pd):Prop where
 t:p.to.small
 m:p.m.small
structure Jb.small (j:Jb):Prop where
 k:j.key.length≤300
 v:j.val.length≤300
 i:j.item.small
 o:j.owner.small
 b:j.back.small
 a:j.asked.length≤30
 al:∀s∈j.asked,s.length≤1000
structure Rs.small (r:Rs):Prop where
 k:r.key.length≤300
 v:r.val.length≤300
structure Nd.small (n:Nd):Prop where
 me:n.me.small
 psk:n.psk.length≤300
 gk:n.gateK.length≤300
 pl:n.pred.length≤40
 p:∀p∈n.pred,p.e.small
 ll:n.list.length≤40
 l:∀p∈n.list,p.e.small
 fl:n.fingers.length≤70
 f:∀f∈n.fingers,f.p.e.small
 sl:n.sessions.length≤60
 s:∀s∈n.sessions,s.small
 dl:n.pends.length≤50
 d:∀p∈n.pends,p.small
 il:n.items.length≤60
 i:∀x∈n.items,x.small
 jl:n.jobs.length≤20
 j:∀j∈n.jobs,j.small
 wl:n.draws.length≤60
 rl:n.results.length≤40
 r:∀r∈n.results,r.small
theorem qs0 {s:Se} (h:qia s=false):s.small:=by
 simp only [qia,Bool.or_eq_false_iff,decide_eq_false_iff_not,Nat.not_lt]at h
 exact ⟨qb0 h.2,h.1.1,h.1.2⟩
theorem qkC {x:It} (h:qcr x=false):x.small:=by
 simp only [qcr,Bool.or_eq_false_iff,decide_eq_false_iff_not,Nat.not_lt]at h
 exact ⟨h.1,h.2⟩
theorem qkD {m:Ms} (h:qcs m=false):m.small:=by
 simp only [qcs,Bool.or_eq_false_iff,decide_eq_false_iff_not,Nat.not_lt]at h
 obtain ⟨⟨⟨⟨⟨h1,h2⟩,h3⟩,h4⟩,h5⟩,h6⟩:=h
 exact ⟨h1,h2,h3,h4,fun e he=>qb0 (qb1 h5 e he),fun x hx=>qkC (qb1 h6 x hx)⟩
theorem qs1 {j:Jb} (h:qcS j=false):j.small:=by
 simp only [qcS,Bool.or_eq_false_iff,decide_eq_false_iff_not,Nat.not_lt]at h
 obtain ⟨⟨⟨⟨⟨⟨⟨h1,h2⟩,h3⟩,h4⟩,h5⟩,h6⟩,h7⟩,h8⟩:=h
 exact ⟨h1,h2,⟨h3,h4⟩,qb0 h5,qb0 h6,h7,fun s hs=>by have:=qb1 h8 s hs;simpa using this⟩
theorem qib {l:List Pr} (h:qdT l=false):l.length≤40∧∀p∈l,p.e.small:=by
 simp only [qdT,Bool.or_eq_false_iff,decide_eq_false_iff_not,Nat.not_lt]at h
 exact ⟨h.1,fun p hp=>qb0 (qb1 h.2 p hp)⟩
theorem qpQ {l:List Se} (h:qfy l=false):l.length≤60∧∀p∈l,p.small:=by
 simp only [qfy,Bool.or_eq_false_iff,decide_eq_false_iff_not,Nat.not_lt]at h
 exact ⟨h.1,fun p hp=>qs0 (qb1 h.2 p hp)⟩
theorem qpR {l:List It} (h:qfz l=false):l.length≤60∧∀p∈l,p.small:=by
 simp only [qfz,Bool.or_eq_false_iff,decide_eq_false_iff_not,Nat.not_lt]at h
 exact ⟨h.1,fun p hp=>qkC (qb1 h.2 p hp)⟩
theorem qmO {l:List Pd} (h:qd6 l=false):l.length≤50∧∀p∈l,p.small:=by
 simp only [qd6,Bool.or_eq_false_iff,decide_eq_false_iff_not,Nat.not_lt]at h
 refine ⟨h.1,fun p hp=>?_⟩
 have:=qb1 h.2 p hp
 simp only [Bool.or_eq_false_iff]at this
 exact ⟨qb0 this.1,qkD this.2⟩
theorem qg2 {n:Nd} (h:qbn n=false):n.small:=by
 simp only [qbn,Bool.or_eq_false_iff,decide_eq_false_iff_not,Nat.not_lt]at h
 obtain ⟨⟨⟨⟨⟨⟨⟨⟨⟨⟨⟨⟨⟨⟨h1,h2⟩,h3⟩,h4⟩,h5⟩,h6⟩,h7⟩,h8⟩,h9⟩,h10⟩,h11⟩,h12⟩,h13⟩,h14⟩,h15⟩:=h
 have q4:=qib h4;have q5:=qib h5;have q7:=qpQ h7;have q8:=qmO h8;have q9:=qpR h9
 exact ⟨qb0 h1,h2,h3,q4.1,q4.2,q5.1,q5.2,h6,fun x hx=>qb0 (qb1 h13 x hx),q7.1,q7.2,q8.1,q8.2,q9.1,q9.2,h10,fun x hx=>qs1 (qb1 h14 x hx),h11,h12,fun r hr=>by
  have:=qb1 h15 r hr
  simp only [Bool.or_eq_false_iff,decide_eq_false_iff_not,Nat.not_lt]at this
  exact ⟨this.1,this.2⟩⟩
def qdc (l:List It) (key:List UInt8):Int:=if l.findIdx (fun x=>decide (x.k=key))<l.length then (l.findIdx (fun x=>decide (x.k=key)):Nat) else -1
theorem qiS {α:Type} {p:α→Bool} {l:List α} {i:Nat} (h:i<l.length) (h1:(l.take i).all p=true) (h2:p l[i]=true):(l.take (i+1)).all p=true:=by
 rw [List.take_succ_eq_append_getElem h,List.all_append,h1];simp [h2]
theorem qiT {l:List It} {key:List UInt8} {i:Nat} (h:i<l.length) (hn:(l.take i).all (fun x=>!decide (x.k=key))=true) (he:l[i].k=key):qdc l key=i:=by
 have:l.findIdx (fun x=>decide (x.k=key))=i:=by
  rw [List.findIdx_eq h]
  refine ⟨by simpa using he,fun j hj=>?_⟩
  have:=List.all_eq_true.1 hn l[j] (by
   rw [List.mem_take_iff_getElem];exact ⟨j,by omega,rfl⟩)
  simpa using this
 unfold qdc
 rw [this,if_pos h]
theorem qfA {l:List It} {key:List UInt8} (hn:l.all (fun x=>!decide (x.k=key))=true):qdc l key= -1:=by
 unfold qdc
 rw [if_neg]
 intro hlt
 have:=List.findIdx_getElem (w:=hlt)
 have h2:=List.all_eq_true.1 hn _ (List.getElem_mem hlt)
 simp only [Bool.not_eq_true',decide_eq_false_iff_not]at h2
 exact h2 (by simpa using this)
def qdE (l:List It) (key:List UInt8):It×Bool:=match l.find? (fun x=>decide (x.k=key))with | some x=>(x,true)|none=>(qa6,false)
theorem qx4 {l:List It} {key:List UInt8} {i:Nat} (h:i<l.length) (hn:(l.take i).all (fun x=>!decide (x.k=key))=true) (he:l[i].k=key):qdE l key=(l[i],true):=by
 have:l.find? (fun x=>decide (x.k=key))=some l[i]:=by
  rw [List.find?_eq_some_iff_getElem]
  refine ⟨by simpa using he,i,h,rfl,fun j hj=>?_⟩
  have:=List.all_eq_true.1 hn l[j] (by
   rw [List.mem_take_iff_getElem];exact ⟨j,by omega,rfl⟩)
  simpa using this
 simp [qdE,this]
theorem qnH {l:List It} {key:List UInt8} (hn:l.all (fun x=>!decide (x.k=key))=true):qdE l key=(qa6,false):=by
 have:l.find? (fun x=>decide (x.k=key))=none:=by
  rw [List.find?_eq_none]
  intro x hx
  have:=List.all_eq_true.1 hn x hx
  simpa using this
 simp [qdE,this]
theorem qez (l:List It) (key:List UInt8):(∃(j:Nat) (h:j<l.length),l[j].k=key∧(l.take j).all (fun x=>!decide (x.k=key))=true∧qdc l key=j∧qdE l key=(l[j],true))∨(l.all (fun x=>!decide (x.k=key))=true∧qdc l key= -1∧qdE l key=(qa6,false)):=by
 by_cases h:l.all (fun x=>!decide (x.k=key))=true
 ·exact .inr ⟨h,qfA h,qnH h⟩
 ·left
  have hlt:l.findIdx (fun x=>decide (x.k=key))<l.length:=by
   rw [List.findIdx_lt_length]
   simp only [List.all_eq_true,Bool.not_eq_true',decide_eq_false_iff_not,Classical.not_forall,Classical.not_not]at h
   obtain ⟨x,hx,he⟩:=h
   exact ⟨x,hx,by simpa using he⟩
  have he:l[l.findIdx (fun x=>decide (x.k=key))].k=key:=by
   have:=List.findIdx_getElem (w:=hlt);simpa using this
  have hn:(l.take (l.findIdx (fun x=>decide (x.k=key)))).all (fun x=>!decide (x.k=key))=true:=by
   rw [List.all_eq_true]
   intro x hx
   rw [List.mem_take_iff_getElem]at hx
   obtain ⟨j,hj,rfl⟩:=hx
   have:=List.not_of_lt_findIdx (p:=fun x:It=>decide (x.k=key)) (xs:=l) (i:=j) (by omega)
   simpa using this
  exact ⟨_,hlt,he,hn,qiT hlt hn he,qx4 hlt hn he⟩
@[go_sem] theorem qNy (l:List It) (key:List UInt8) (hl:l.length≤9223372036854775807):fn C 234 [] [.slice 4 (l.map It.cs),.str key]=some (.int .i64 (qdc l key),[]):=by
 rw [qaa Tryz.func234 rfl rfl Tryz.results234 qEk.1 rfl rfl (by kernel_rfl)]
 simp -implicitDefEqProofs -dsimp +contextual (maxSteps:=9999999) (disch:=first | omega | simp only [go_sem]<;>omega | refine ib ?_;kernel_rfl) only [go_sem,seval,↓reduceIte]
 refine (qaj (fun i f H=>f 0= .slice 4 (l.map It.cs)∧f 1= .str key∧f 5= .int .i64 (i:Nat)∧H=qac.nil∧i≤l.length∧(l.take i).all (fun x=>!decide (x.k=key))=true) (fun i=>l.length - i) (fun i=>some (.int .i64 (qdc l key),[])) ?_ 0 _ _ ⟨rfl,rfl,rfl,rfl,by omega,rfl⟩).trans rfl
 rintro i f _ ⟨h0,h1,h5,rfl,hi,hall⟩ ih
 by_cases hl:i<l.length
 ·simp -implicitDefEqProofs -dsimp +contextual (maxSteps:=9999999) (disch:=first | omega | simp only [go_sem]<;>omega | refine ib ?_;kernel_rfl) only [go_sem,seval,↓reduceIte,h0,h1,h5,hl]
  (repeat' (refine qae (fun _=>?_) (fun _=>?_)))
  ·rename_i h;rw [qiT hl hall h]
  ·rename_i h;exact ih (i+1) _ _ ⟨h0,h1,rfl,rfl,by omega,qiS hl hall (by simpa using h)⟩ (by omega)
 ·simp -implicitDefEqProofs -dsimp +contextual (maxSteps:=9999999) (disch:=first | omega | simp only [go_sem]<;>omega | refine ib ?_;kernel_rfl) only [go_sem,seval,↓reduceIte,h0,h1,h5,hl]
  obtain rfl:i=l.length:=by omega
  rw [qfA (by simpa using hall)]
@[go_sem] theorem qNz (k v:List UInt8) (n:Int) (g:Bool) (key:List UInt8):fn C 249 [] [.agg [.str k,.str v,.int .i64 n,.bool g],.iptr [.str key]]=some (.bool (decide (k=key)),[]):=by
 rw [qaa Tryz.func249 rfl rfl Tryz.results249 qEt.1 rfl rfl (by kernel_rfl)]
 simp -implicitDefEqProofs -dsimp +contextual (maxSteps:=9999999) (disch:=first | omega | simp only [go_sem]<;>omega | refine ib ?_;kernel_rfl) only [go_sem,seval,↓reduceIte]
@[go_sem] theorem qNA (l:List It) (key:List UInt8) (hl:l.length≤9223372036854775807):fn C 248 [] [.slice 4 (l.map It.cs),.fn (.func 249) [] [.iptr [.str key]]]=some (.int .i64 (qdc l key),[]):=by
 rw [qaa Tryz.func248 rfl rfl Tryz.results248 qEs.1 rfl rfl (by kernel_rfl)]
 simp -implicitDefEqProofs -dsimp +contextual (maxSteps:=9999999) (disch:=first | omega | simp only [go_sem]<;>omega | refine ib ?_;kernel_rfl) only [go_sem,seval,↓reduceIte]
 refine (qaj (fun i f H=>f 0= .slice 4 (l.map It.cs)∧f 1= .fn (.func 249) [] [.iptr [.str key]]∧f 7= .int .i64 l.length∧f 8= .int .i64 (i:Nat)∧H=qac.nil∧i≤l.length∧(l.take i).all (fun x=>!decide (x.k=key))=true) (fun i=>l.length - i) (fun i=>some (.int .i64 (qdc l key),[])) ?_ 0 _ _ ⟨rfl,rfl,rfl,rfl,rfl,by omega,rfl⟩).trans rfl
 rintro i f _ ⟨h0,h1,h7,h8,rfl,hi,hall⟩ ih
 by_cases hl:i<l.length
 ·simp -implicitDefEqProofs -dsimp +contextual (maxSteps:=9999999) (disch:=first | omega | simp only [go_sem]<;>omega | refine ib ?_;kernel_rfl) only [go_sem,seval,↓reduceIte,h0,h1,h7,h8,hl]
  (repeat' (refine qae (fun _=>?_) (fun _=>?_)))
  ·rename_i h;rw [qiT hl hall h]
  ·rename_i h;exact ih (i+1) _ _ ⟨h0,h1,h7,rfl,rfl,by omega,qiS hl hall (by simpa using h)⟩ (by omega)
 ·simp -implicitDefEqProofs -dsimp +contextual (maxSteps:=9999999) (disch:=first | omega | simp only [go_sem]<;>omega | refine ib ?_;kernel_rfl) only [go_sem,seval,↓reduceIte,h0,h1,h7,h8,hl]
  obtain rfl:i=l.length:=by omega
  rw [qfA (by simpa using hall)]
@[go_sem] theorem qNB (l:List It) (key:List UInt8) (hl:l.length≤9223372036854775807):fn C 212 [] [.slice 4 (l.map It.cs),.str key]=some (.int .i64 (qdc l key),[]):=by
 rw [qaa Tryz.func212 rfl rfl Tryz.results212 qD5.1 rfl rfl (by kernel_rfl)]
 simp -implicitDefEqProofs -dsimp +contextual (maxSteps:=9999999) (disch:=first | omega | simp only [go_sem]<;>omega | refine ib ?_;kernel_rfl) only [go_sem,seval,↓reduceIte]
@[go_sem] theorem qMe (l:List It) (key:List UInt8) (hl:l.length≤9223372036854775807):fn C 116 [] [.slice 4 (l.map It.cs),.str key]=some (.tup [.agg (qdE l key).1.cs,.bool (qdE l key).2],[]):=by
 rw [qaa Tryz.func116 rfl rfl Tryz.results116 qDf.1 rfl rfl (by kernel_rfl)]
 simp -implicitDefEqProofs -dsimp +contextual (maxSteps:=9999999) (disch:=first | omega | simp only [go_sem]<;>omega | refine ib ?_;kernel_rfl) only [go_sem,seval,↓reduceIte]
 refine (qaj (fun i f H=>f 0= .slice 4 (l.map It.cs)∧f 1= .str key∧f 4= .ptr 104 1 0 0∧f 6= .int .i64 (i:Nat)∧H 104=⟨1,.live,4,[qa6.cs],false⟩∧i≤l.length∧(l.take i).all (fun x=>!decide (x.k=key))=true) (fun i=>l.length - i) (fun i=>some (.tup [.agg (qdE l key).1.cs,.bool (qdE l key).2],[])) ?_ 0 _ _ ⟨rfl,rfl,rfl,rfl,rfl,by omega,rfl⟩).trans rfl
 rintro i f H ⟨h0,h1,h4,h6,hH,hi,hall⟩ ih
 by_cases hl:i<l.length
 ·simp -implicitDefEqProofs -dsimp +contextual (maxSteps:=9999999) (disch:=first | omega | simp only [go_sem]<;>omega | refine ib ?_;kernel_rfl) only [go_sem,seval,↓reduceIte,h0,h1,h4,h6,hl,hH]
  (repeat' (refine qae (fun _=>?_) (fun _=>?_)))
  ·rename_i h;rw [qx4 hl hall h];simp [h]
  ·rename_i h;exact ih (i+1) _ _ ⟨h0,h1,h4,rfl,by simp -implicitDefEqProofs -dsimp +contextual (maxSteps:=9999999) (disch:=first | omega | simp only [go_sem]<;>omega | refine ib ?_;kernel_rfl) only [go_sem,seval,↓reduceIte,hH],by omega,qiS hl hall (by simpa using h)⟩ (by omega)
 ·simp -implicitDefEqProofs -dsimp +contextual (maxSteps:=9999999) (disch:=first | omega | simp only [go_sem]<;>omega | refine ib ?_;kernel_rfl) only [go_sem,seval,↓reduceIte,h0,h1,h4,h6,hl,hH]
  obtain rfl:i=l.length:=by omega
  rw [qnH (by simpa using hall)]<;>rfl
@[go_sem] theorem qMf (l:List It) (key:List UInt8) (hl:l.length≤9223372036854775807):fn C 151 [] [.slice 4 (l.map It.cs),.str key]=some (.tup [.agg (qdE l key).1.cs,.bool (qdE l key).2],[]):=by
 rw [qaa Tryz.func151 rfl rfl Tryz.results151 qDx.1 rfl rfl (by kernel_rfl)]
 rcases qez l key with ⟨j,hj,he,hn,hp,hg⟩|⟨hn,hp,hg⟩
 ·simp -implicitDefEqProofs -dsimp +contextual (maxSteps:=9999999) (disch:=first | omega | simp only [go_sem]<;>omega | refine ib ?_;kernel_rfl) only [go_sem,seval,↓reduceIte,hp,hg]
 ·simp -implicitDefEqProofs -dsimp +contextual (maxSteps:=9999999) (disch:=first | omega | simp only [go_sem]<;>omega | refine ib ?_;kernel_rfl) only [go_sem,seval,↓reduceIte,hp,hg]
theorem qs2 (a b:List UInt8) (i:Nat) (h:a.take i=b.take i) (ha:i<a.length) (hb:i<b.length) (hne:a[i]≠b[i]):Op.bytesLess a b=decide (a[i].toNat<b[i].toNat):=by
 induction i generalizing a b with
 | zero=>
  cases a with
  | nil=>simp at ha
  | cons x a=>
   cases b with
   | nil=>simp at hb
   | cons y b=>
    simp only [List.getElem_cons_zero]at hne ⊢
    simp [Op.bytesLess,hne,UInt8.lt_iff_toNat_lt]
 | succ i ih=>
  cases a with
  | nil=>simp at ha
  | cons x a=>
   cases b with
   | nil=>simp at hb
   | cons y b=>
    simp only [List.take_succ_cons,List.cons.injEq]at h
    obtain ⟨rfl,h⟩:=h
    simp only [List.getElem_cons_succ]at hne ⊢
    rw [←ih a b h (by simpa using ha) (by simpa using hb) hne]
    simp [Op.bytesLess]
theorem qge (a b:List UInt8) (i:Nat) (hi:i≤a.length) (hi':i≤b.length) (h:a.take i=b.take i) (he:i=a.length∨i=b.length):Op.bytesLess a b=decide (a.length<b.length):=by
 induction i generalizing a b with
 | zero=>
  cases a with
  | nil=>cases b<;>simp [Op.bytesLess]
  | cons x a=>
   cases b with
   | nil=>simp [Op.bytesLess]
   | cons y b=>simp at he
 | succ i ih=>
  cases a with
  | nil=>simp at hi
  | cons x a=>
   cases b with
   | nil=>simp at hi'
   | cons y b=>
    simp only [List.take_succ_cons,List.cons.injEq]at h
    obtain ⟨rfl,h⟩:=h
    have:=ih a b (by simpa using hi) (by simpa using hi') h (by simpa using he)
    simp [Op.bytesLess,this]
@[go_sem] theorem qNC (a b:List UInt8) (hl:a.length≤9223372036854775807) (hm:b.length≤9223372036854775807):fn C 235 [] [.str a,.str b]=some (.bool (Op.bytesLess a b),[]):=by
 rw [qaa Tryz.func235 rfl rfl Tryz.results235 qEl.1 rfl rfl (by kernel_rfl)]
 simp -implicitDefEqProofs -dsimp +contextual (maxSteps:=9999999) (disch:=first | omega | simp only [go_sem]<;>omega | refine ib ?_;kernel_rfl) only [go_sem,seval,↓reduceIte]
 refine (qaj (fun i f H=>f 0= .str a∧f 1= .str b∧f 5= .int .i64 (i:Nat)∧H=qac.nil∧i≤a.length∧i≤b.length∧a.take i=b.take i) (fun i=>a.length - i) (fun i=>some (.bool (Op.bytesLess a b),[])) ?_ 0 _ _ ⟨rfl,rfl,rfl,rfl,by omega,by omega,rfl⟩).trans rfl
 rintro i f _ ⟨h0,h1,h5,rfl,hi,hj,ht⟩ ih
 by_cases h4:i<a.length
 ·by_cases h6:i<b.length
  ·simp -implicitDefEqProofs -dsimp +contextual (maxSteps:=9999999) (disch:=first | omega | simp only [go_sem]<;>omega | refine ib ?_;kernel_rfl) only [go_sem,seval,↓reduceIte,h0,h1,h5,h4,h6]
   (repeat' (refine qae (fun _=>?_) (fun _=>?_)))
   ·rename_i he
    refine ih (i+1) _ _ ⟨h0,h1,rfl,rfl,by omega,by omega,?_⟩ (by omega)
    rw [List.take_succ_eq_append_getElem h4,List.take_succ_eq_append_getElem h6,ht,UInt8.toNat_inj.1 he]
   ·rename_i he
    rw [qs2 a b i ht h4 h6 (fun e=>he (by rw [e]))]
  ·simp -implicitDefEqProofs -dsimp +contextual (maxSteps:=9999999) (disch:=first | omega | simp only [go_sem]<;>omega | refine ib ?_;kernel_rfl) only [go_sem,seval,↓reduceIte,h0,h1,h5,h4,h6]
   rw [qge a b i hi hj ht (.inr (by omega))]
 ·simp -implicitDefEqProofs -dsimp +contextual (maxSteps:=9999999) (disch:=first | omega | simp only [go_sem]<;>omega | refine ib ?_;kernel_rfl) only [go_sem,seval,↓reduceIte,h0,h1,h5,h4]
  (repeat' (refine qae (fun _=>?_) (fun _=>?_)))<;>rw [qge a b i hi hj ht (.inl (by omega))]
@[go_sem] theorem qND (l:List It) (hl:l.length≤1073741824):fn C 222 [] [.slice 4 (l.map It.cs)]=some (.slice 4 (l.map It.cs),[]):=by
 rw [qaa Tryz.func222 rfl rfl Tryz.results222 qEa.1 rfl rfl (by kernel_rfl)]
 simp -implicitDefEqProofs -dsimp +contextual (maxSteps:=9999999) (disch:=first | omega | simp only [go_sem]<;>omega | refine ib ?_;kernel_rfl) only [go_sem,seval,↓reduceIte]
def qmP:List It→List UInt8→Nat
 | [],_=>0
 | x::r,k=>if Op.bytesLess x.k k=true then qmP r k+1 else 0
def qfQ (l:List It) (x:It):List It:=if 0≤qdc l x.k then l.set (qdc l x.k).toNat x else l.take (qmP l x.k)++x::l.drop (qmP l x.k)
theorem qnI (l:List It) (k:List UInt8) (i:Nat) (hi:i≤l.length) (h:∀j (hj:j<l.length),j<i→Op.bytesLess l[j].k k=true) (hn:∀(hj:i<l.length),Op.bytesLess l[i].k k=false):qmP l k=i:=by
 induction l generalizing i with
 | nil=>simp at hi;simp [qmP,hi]
 | cons x r ih=>
  cases i with
  | zero=>have:=hn (by simp);simp at this;simp [qmP,this]
  | succ i=>
   have h0:=h 0 (by simp) (by omega)
   simp at h0
   simp only [qmP,h0,if_true]
   rw [ih i (by simpa using hi) (fun j hj hji=>h (j+1) (by simpa using hj) (by omega)) (fun hj=>hn (by simpa using hj))]
@[go_sem] theorem qNE (l:List It) (k v:List UInt8) (n:Int) (g:Bool) (hl:l.length≤1073741824) (hk:∀x∈l,x.k.length≤9223372036854775807) (hk2:k.length≤9223372036854775807):fn C 182 [] [.slice 4 (l.map It.cs),.agg [.str k,.str v,.int .i64 n,.bool g]]=some (.slice 4 ((qfQ l ⟨k,v,n,g⟩).map It.cs),[]):=by
 rw [qaa Tryz.func182 rfl rfl Tryz.results182 qDR.1 rfl rfl (by kernel_rfl)]
 rcases qez l k with ⟨j,hj,he,hn,hp,hg⟩|⟨hn,hp,hg⟩
 ·simp -implicitDefEqProofs -dsimp +contextual (maxSteps:=9999999) (disch:=first | omega | simp only [go_sem]<;>omega | refine ib ?_;kernel_rfl) only [go_sem,seval,↓reduceIte,hp,hj]
  rw [qfQ,hp,if_pos (by omega)];rfl
 ·simp -implicitDefEqProofs -dsimp +contextual (maxSteps:=9999999) (disch:=first | omega | simp only [go_sem]<;>omega | refine ib ?_;kernel_rfl) only [go_sem,seval,↓reduceIte,hp]
  refine (qaj (fun i f H=>f 0= .slice 4 (l.map It.cs)∧f 3= .ptr 103 1 0 0∧f 5= .int .i64 (i:Nat)∧H 103=⟨1,.live,4,[[.str k,.str v,.int .i64 n,.bool g]],false⟩∧i≤l.length∧∀j (hj:j<l.length),j<i→Op.bytesLess l[j].k k=true) (fun i=>l.length - i) (fun i=>some (.slice 4 ((qfQ l ⟨k,v,n,g⟩).map It.cs),[])) ?_ 0 _ _ ⟨rfl,rfl,rfl,rfl,by omega,fun j _ h=>by omega⟩).trans rfl
  rintro i f H ⟨h0,h3,h5,hH,hi,hb⟩ ih
  have fin:∀(hn:∀(hj:i<l.length),Op.bytesLess l[i].k k=false),qfQ l ⟨k,v,n,g⟩=l.take i++⟨k,v,n,g⟩::l.drop i:=fun hn=>by
   rw [qfQ,hp,if_neg (by omega),qnI l k i hi hb hn]
  by_cases hl:i<l.length
  ·have k1:=hk l[i] (List.getElem_mem _)
   simp -implicitDefEqProofs -dsimp +contextual (maxSteps:=9999999) (disch:=first | omega | simp only [go_sem]<;>omega | refine ib ?_;kernel_rfl) only [go_sem,seval,↓reduceIte,h0,h3,h5,hH,hl,hi]
   (repeat' (refine qae (fun _=>?_) (fun _=>?_)))
   ·rename_i hb'
    refine ih (i+1) _ _ ⟨h0,h3,rfl,hH,by omega,fun j hj hji=>?_⟩ (by omega)
    by_cases e:j=i
    ·subst e;exact hb'
    ·exact hb j hj (by omega)
   ·rename_i hb'
    rw [fin (fun _=>by simpa using hb')]
    simp [List.take_of_length_le]
  ·obtain rfl:i=l.length:=by omega
   simp -implicitDefEqProofs -dsimp +contextual (maxSteps:=9999999) (disch:=first | omega | simp only [go_sem]<;>omega | refine ib ?_;kernel_rfl) only [go_sem,seval,↓reduceIte,h0,h3,h5,hH,hl]
   rw [fin (fun h=>absurd h hl)]
   simp
@[go_sem] theorem qNF (l:List It) (i:Nat) (k v:List UInt8) (n:Int) (g:Bool) (hi:i≤l.length) (hl:l.length≤1073741824):fn C 257 [0] [.usl 4 (l.map It.cs),.int .i64 i,.slice 4 [[.str k,.str v,.int .i64 n,.bool g]]]=some (.slice 4 ((l.take i++⟨k,v,n,g⟩::l.drop i).map It.cs),[]):=by
 rw [qaa Tryz.func257 rfl rfl Tryz.results257 qEz.1 rfl rfl (by kernel_rfl)]
 by_cases h:i=l.length
 ·subst h
  simp -implicitDefEqProofs -dsimp +contextual (maxSteps:=9999999) (disch:=first | omega | simp only [go_sem]<;>omega | refine ib ?_;kernel_rfl) only [go_sem,seval,↓reduceIte]
 ·simp -implicitDefEqProofs -dsimp +contextual (maxSteps:=9999999) (disch:=first | omega | simp only [go_sem]<;>omega | refine ib ?_;kernel_rfl) only [go_sem,seval,↓reduceIte,h,hi]
  simp<;>omega
@[go_sem] theorem qNG (l:List It) (k v:List UInt8) (n:Int) (g:Bool) (hl:l.length≤1073741824):fn C 223 [] [.slice 4 (l.map It.cs),.agg [.str k,.str v,.int .i64 n,.bool g]]=some (.slice 4 ((qfQ l ⟨k,v,n,g⟩).map It.cs),[]):=by
 rw [qaa Tryz.func223 rfl rfl Tryz.results223 qEb.1 rfl rfl (by kernel_rfl)]
 rcases qez l k with ⟨j,hj,he,hn,hp,hg⟩|⟨hn,hp,hg⟩
 ·simp -implicitDefEqProofs -dsimp +contextual (maxSteps:=9999999) (disch:=first | omega | simp only [go_sem]<;>omega | refine ib ?_;kernel_rfl) only [go_sem,seval,↓reduceIte,hp,hj]
  rw [qfQ,hp,if_pos (by omega)];rfl
 ·simp -implicitDefEqProofs -dsimp +contextual (maxSteps:=9999999) (disch:=first | omega | simp only [go_sem]<;>omega | refine ib ?_;kernel_rfl) only [go_sem,seval,↓reduceIte,hp]
  refine (qaj (fun i f H=>f 3= .ptr 103 1 0 0∧f 5= .osl 110 1 0 l.length∧f 7= .int .i64 (i:Nat)∧H 103=⟨1,.live,4,[[.str k,.str v,.int .i64 n,.bool g]],false⟩∧H 110=⟨1,.live,4,l.map It.cs,true⟩∧i≤l.length∧∀j (hj:j<l.length),j<i→Op.bytesLess l[j].k k=true) (fun i=>l.length - i) (fun i=>some (.slice 4 ((qfQ l ⟨k,v,n,g⟩).map It.cs),[])) ?_ 0 _ _ ⟨rfl,rfl,rfl,rfl,rfl,by omega,fun j _ h=>by omega⟩).trans rfl
  rintro i f H ⟨h3,h5,h7,hH,hG,hi,hb⟩ ih
  have fin:∀(hn:∀(hj:i<l.length),Op.bytesLess l[i].k k=false),qfQ l ⟨k,v,n,g⟩=l.take i++⟨k,v,n,g⟩::l.drop i:=fun hn=>by
   rw [qfQ,hp,if_neg (by omega),qnI l k i hi hb hn]
  by_cases hl:i<l.length
  ·simp -implicitDefEqProofs -dsimp +contextual (maxSteps:=9999999) (disch:=first | omega | simp only [go_sem]<;>omega | refine ib ?_;kernel_rfl) only [go_sem,seval,↓reduceIte,h3,h5,h7,hH,hG,hl,hi]
   (repeat' (refine qae (fun _=>?_) (fun _=>?_)))
   ·rename_i hb'
    refine ih (i+1) _ _ ⟨h3,h5,rfl,hH,hG,by omega,fun j hj hji=>?_⟩ (by omega)
    by_cases e:j=i
    ·subst e;exact hb'
    ·exact hb j hj (by omega)
   ·rename_i hb'
    rw [fin (fun _=>by simpa using hb')]
  ·obtain rfl:i=l.length:=by omega
   simp -implicitDefEqProofs -dsimp +contextual (maxSteps:=9999999) (disch:=first | omega | simp only [go_sem]<;>omega | refine ib ?_;kernel_rfl) only [go_sem,seval,↓reduceIte,h3,h5,h7,hH,hG,hl,hi]
   rw [fin (fun h=>absurd h hl)]
   simp
def qBd (n:Int):Int:=(if 0>n then 0 else n)+1
def qcN (l:List It) (k v:List UInt8) (g:Bool):List It×It×Int:=
 if qx3 k=true∧v.length≤32 then
  if (qdE l k).2=false∧16≤l.length then (l,qa6,27)
  else if 1073741824≤(qdE l k).1.n then (l,qa6,3)
  else (qfQ l ⟨k,if g=true then [] else v,qBd (qdE l k).1.n,g⟩,⟨k,if g=true then [] else v,qBd (qdE l k).1.n,g⟩,0)
 else (l,qa6,2)
theorem qcC (l:List It) (k:List UInt8) (h:(qdE l k).2=false):(qdE l k).1=qa6:=by
 unfold qdE at h ⊢
 split at h
 ·cases h
 ·rfl
@[go_sem] theorem qFu (l : List It) (k v : List UInt8) (g : Bool) (hl : l.length ≤ 1073741824) (hk : k.length ≤ 9223372036854775807) : fn C 164 [] [.slice 4 (l.map It.cs), .str k, .str v, .bool g] = some (.tup [.slice 4 ((qcN l k v g).1.map It.cs), .agg (qcN l k v g).2.1.cs, .int .i64 (qcN l k v g).2.2], []) := by
  rw [qaa Tryz.func164 rfl rfl Tryz.results164 qDE.1 rfl rfl (by kernel_rfl)]
  rcases Bool.eq_false_or_eq_true (qdE l k).2 with h2 | h2
  · simp -implicitDefEqProofs -dsimp +contextual (maxSteps := 9999999) (disch := first | omega | simp only [go_sem] <;> omega | refine ib ?_; kernel_rfl) only [go_sem, seval, ↓reduceIte, h2]
    (repeat' (refine qae (fun _ => ?_) (fun _ => ?_))) <;> simp (disch := first | assumption | omega) [qcN, if_pos, if_neg, *, qBd, qa6, It.cs]
  · simp -implicitDefEqProofs -dsimp +contextual (maxSteps := 9999999) (disch := first | omega | simp only [go_sem] <;> omega | refine ib ?_; kernel_rfl) only [go_sem, seval, ↓reduceIte, h2, qcC l k h2]
    (repeat' (refine qae (fun _ => ?_) (fun _ => ?_))) <;> simp (disch := first | assumption | omega) [qcN, if_pos, if_neg, *, qcC l k h2, qBd, qa6, It.cs]
@[go_sem] theorem qMg (l : List It) (k v : List UInt8) (g : Bool) (hl : l.length ≤ 1073741824) (hk : ∀ x ∈ l, x.k.length ≤ 9223372036854775807) (hk : k.length ≤ 9223372036854775807) : fn C 179 [] [.slice 4 (l.map It.cs), .str k, .str v, .bool g] = some (.tup [.slice 4 ((qcN l k v g).1.map It.cs), .agg (qcN l k v g).2.1.cs, .int .i64 (qcN l k v g).2.2], []) := by
  rw [qaa Tryz.func179 rfl rfl Tryz.results179 qDP.1 rfl rfl (by kernel_rfl)]
  rcases Bool.eq_false_or_eq_true (qdE l k).2 with h2 | h2
  · simp -implicitDefEqProofs -dsimp +contextual (maxSteps := 9999999) (disch := first | omega | simp only [go_sem] <;> omega | refine ib ?_; kernel_rfl) only [go_sem, seval, ↓reduceIte, h2]
    (repeat' (refine qae (fun _ => ?_) (fun _ => ?_))) <;> simp (disch := first | assumption | omega) [qcN, if_pos, if_neg, *, qBd, qa6, It.cs]
  · simp -implicitDefEqProofs -dsimp +contextual (maxSteps := 9999999) (disch := first | omega | simp only [go_sem] <;> omega | refine ib ?_; kernel_rfl) only [go_sem, seval, ↓reduceIte, h2, qcC l k h2]
    (repeat' (refine qae (fun _ => ?_) (fun _ => ?_))) <;> simp (disch := first | assumption | omega) [qcN, if_pos, if_neg, *, qcC l k h2, qBd, qa6, It.cs]
theorem qs3 (l:List It) (x:It):(qfQ l x).length≤l.length+1:=by
 unfold qfQ;split
 ·simp
 ·simp;omega
def qbi (s:List It×Int) (x:It):List It×Int:=
 if qsW x=true then
  if (qdE s.1 x.k).2=true∧x.n≤(qdE s.1 x.k).1.n then s
  else if (qdE s.1 x.k).2=false∧16≤s.1.length then (s.1,27)
  else (qfQ s.1 x,s.2)
 else s
def qa0 (l more:List It):List It×Int:=more.foldl qbi (l,0)
theorem qpS (s:List It×Int) (x:It):(qbi s x).1.length≤s.1.length+1:=by
 unfold qbi
 have:=qs3 s.1 x
 split
 ·split
  ·omega
  ·split<;>simp<;>omega
 ·omega
theorem qs4 (more:List It):∀s:List It×Int,(more.foldl qbi s).1.length≤s.1.length+more.length:=by
 induction more with
 | nil=>intro s;simp
 | cons x more ih=>intro s;have h1:=ih (qbi s x);have h2:=qpS s x;simp only [List.foldl_cons,List.length_cons];omega
theorem qfB (l more:List It):(qa0 l more).1.length≤l.length+more.length:=qs4 more (l,0)
theorem qg3 (l more:List It) (i:Nat) (h:i<more.length):qa0 l (more.take (i+1))=qbi (qa0 l (more.take i)) more[i]:=by
 rw [List.take_succ_eq_append_getElem h];simp only [qa0,List.foldl_append,List.foldl_cons,List.foldl_nil]
@[go_sem] theorem qMh (l more : List It) (hl : l.length ≤ 1000000) (hm : more.length ≤ 1000000) (hk : ∀ x ∈ more, x.k.length ≤ 9223372036854775807) : fn C 229 [] [.slice 4 (l.map It.cs), .slice 4 (more.map It.cs)] = some (.tup [.slice 4 ((qa0 l more).1.map It.cs), .int .i64 (qa0 l more).2], []) := by
  rw [qaa Tryz.func229 rfl rfl Tryz.results229 qEf.1 rfl rfl (by kernel_rfl)]
  simp -implicitDefEqProofs -dsimp +contextual (maxSteps := 9999999) (disch := first | omega | simp only [go_sem] <;> omega | refine ib ?_; kernel_rfl) only [go_sem, seval, ↓reduceIte]
  refine (qaj (fun i f H => f 6 = .slice 4 ((qa0 l (more.take i)).1.map It.cs) ∧ f 7 = .int .i64 (qa0 l (more.take i)).2 ∧ f 14 = .slice 4 (more.map It.cs) ∧ f 15 = .int .i64 more.length ∧ f 16 = .int .i64 (i : Nat) ∧ i ≤ more.length) (fun i => more.length - i) (fun i => some (.tup [.slice 4 ((qa0 l more).1.map It.cs), .int .i64 (qa0 l more).2], [])) ?_ 0 _ _ ⟨rfl, rfl, rfl, rfl, rfl, by omega⟩).trans rfl
  rintro i f H ⟨h6, h7, h14, h15, h16, hi⟩ ih
  by_cases hl : i < more.length
  · have hs := qg3 l more i hl
    have hn := qfB l (more.take i)
    have hki := hk more[i] (List.getElem_mem _)
    have hgf := qcC (qa0 l (more.take i)).1 more[i].k
    simp only [List.length_take] at hn
    generalize qa0 l (more.take i) = s at *
    simp -implicitDefEqProofs -dsimp +contextual (maxSteps := 9999999) (disch := first | omega | simp only [go_sem] <;> omega | refine ib ?_; kernel_rfl) only [go_sem, seval, ↓reduceIte, h6, h7, h14, h15, h16, hl]
    have go := fun (r : List It × Int) (f' : Nat → AVal) (H' : qac) (e : qbi s more[i] = r) (a : f' 6 = .slice 4 (r.1.map It.cs)) (b : f' 7 = .int .i64 r.2) (c : f' 14 = .slice 4 (more.map It.cs)) (d : f' 15 = .int .i64 more.length) (g : f' 16 = .int .i64 ((i + 1 : Nat) : Int)) => ih (i + 1) f' H' (by rw [hs, e]; exact ⟨a, b, c, d, g, by omega⟩) (by omega)
    (repeat' (refine qae (fun _ => ?_) (fun _ => ?_)))
    · exact go s _ _ (by simp [qbi, *]) h6 h7 h14 h15 rfl
    · exact go (qfQ s.1 more[i], s.2) _ _ (by simp [qbi, *]) rfl h7 h14 h15 rfl
    · exact go (s.1, 27) _ _ (by simp [qbi, *]) h6 rfl h14 h15 rfl
    · exact go (qfQ s.1 more[i], s.2) _ _ (by simp [qbi, *]) rfl h7 h14 h15 rfl
    · exact go s _ _ (by simp [qbi, *]) h6 h7 h14 h15 rfl
  · obtain rfl : i = more.length := by omega
    rw [List.take_length] at h6 h7
    simp -implicitDefEqProofs -dsimp +contextual (maxSteps := 9999999) (disch := first | omega | simp only [go_sem] <;> omega | refine ib ?_; kernel_rfl) only [go_sem, seval, ↓reduceIte, h6, h7, h14, h15, h16, hl]
theorem qs5 (l:List It) (x y:It) (h:y∈qfQ l x):y∈l∨y=x:=by
 unfold qfQ at h
 split at h
 ·exact List.mem_or_eq_of_mem_set h
 ·rw [List.mem_append,List.mem_cons]at h
  rcases h with h | h | h
  ·exact .inl (List.mem_of_mem_take h)
  ·exact .inr h
  ·exact .inl (List.mem_of_mem_drop h)
theorem qpT (s:List It×Int) (x y:It) (h:y∈(qbi s x).1):y∈s.1∨y=x:=by
 unfold qbi at h
 split at h
 ·split at h
  ·exact .inl h
  ·split at h
   ·exact .inl h
   ·exact qs5 _ _ _ h
 ·exact .inl h
theorem qs6 (more:List It):∀(s:List It×Int) (y:It),y∈(more.foldl qbi s).1→y∈s.1∨y∈more:=by
 induction more with
 | nil=>intro s y h;exact .inl h
 | cons x more ih=>
  intro s y h
  rcases ih _ _ h with h | h
  ·rcases qpT _ _ _ h with h | h
   ·exact .inl h
   ·exact .inr (by rw [h];exact List.mem_cons_self)
  ·exact .inr (List.mem_cons_of_mem _ h)
theorem qpU (l more:List It) (y:It) (h:y∈(qa0 l more).1):y∈l∨y∈more:=qs6 more (l,0) y h
@[go_sem] theorem qMi (l more : List It) (hl : l.length ≤ 1000000) (hm : more.length ≤ 1000000) (hk : ∀ x ∈ l, x.k.length ≤ 9223372036854775807) (hk2 : ∀ x ∈ more, x.k.length ≤ 9223372036854775807) : fn C 117 [] [.slice 4 (l.map It.cs), .slice 4 (more.map It.cs)] = some (.tup [.slice 4 ((qa0 l more).1.map It.cs), .int .i64 (qa0 l more).2], []) := by
  rw [qaa Tryz.func117 rfl rfl Tryz.results117 qDg.1 rfl rfl (by kernel_rfl)]
  simp -implicitDefEqProofs -dsimp +contextual (maxSteps := 9999999) (disch := first | omega | simp only [go_sem] <;> omega | refine ib ?_; kernel_rfl) only [go_sem, seval, ↓reduceIte]
  refine (qaj (fun i f H => f 1 = .slice 4 (more.map It.cs) ∧ ((∃ (g : Nat) , f 6 = .osl 111 g 0 (qa0 l (more.take i)).1.length ∧ H 111 = ⟨g, .live, 4, (qa0 l (more.take i)).1.map It.cs, false⟩) ∨ f 6 = .slice 4 ((qa0 l (more.take i)).1.map It.cs)) ∧ f 7 = .int .i64 (qa0 l (more.take i)).2 ∧ f 8 = .int .i64 (i : Nat) ∧ i ≤ more.length) (fun i => more.length - i) (fun i => some (.tup [.slice 4 ((qa0 l more).1.map It.cs), .int .i64 (qa0 l more).2], [])) ?_ 0 _ _ ⟨rfl, .inl ⟨_, rfl, rfl⟩, rfl, rfl, by omega⟩).trans rfl
  rintro i f H ⟨h1, h6, h7, h8, hi⟩ ih
  by_cases hl : i < more.length
  · have hs := qg3 l more i hl
    have hn := qfB l (more.take i)
    have hki := hk2 more[i] (List.getElem_mem _)
    have hkm : ∀ x ∈ (qa0 l (more.take i)).1, x.k.length ≤ 9223372036854775807 := fun x hx => by
      rcases qpU _ _ _ hx with h | h
      · exact hk x h
      · exact hk2 x (List.mem_of_mem_take h)
    have hgf := qcC (qa0 l (more.take i)).1 more[i].k
    simp only [List.length_take] at hn
    generalize qa0 l (more.take i) = s at *
    have go1 := fun (r : List It × Int) (f' : Nat → AVal) (H' : qac) (g : Nat) (e : qbi s more[i] = r) (c : f' 1 = .slice 4 (more.map It.cs)) (a : f' 6 = .osl 111 g 0 r.1.length) (hH : H' 111 = ⟨g, .live, 4, r.1.map It.cs, false⟩) (b : f' 7 = .int .i64 r.2) (d : f' 8 = .int .i64 ((i + 1 : Nat) : Int)) => ih (i + 1) f' H' (by rw [hs, e]; exact ⟨c, .inl ⟨g, a, hH⟩, b, d, by omega⟩) (by omega)
    have go2 := fun (r : List It × Int) (f' : Nat → AVal) (H' : qac) (e : qbi s more[i] = r) (c : f' 1 = .slice 4 (more.map It.cs)) (a : f' 6 = .slice 4 (r.1.map It.cs)) (b : f' 7 = .int .i64 r.2) (d : f' 8 = .int .i64 ((i + 1 : Nat) : Int)) => ih (i + 1) f' H' (by rw [hs, e]; exact ⟨c, .inr a, b, d, by omega⟩) (by omega)
    rcases h6 with ⟨g, h6, hH⟩ | h6
    · simp -implicitDefEqProofs -dsimp +contextual (maxSteps := 9999999) (disch := first | omega | simp only [go_sem] <;> omega | refine ib ?_; kernel_rfl) only [go_sem, seval, ↓reduceIte, h1, h6, h7, h8, hl, hH]
      (repeat' (refine qae (fun _ => ?_) (fun _ => ?_)))
      · exact go1 s _ _ g (by simp [qbi, *] <;> omega) h1 h6 (by simp [qac.set, hH]) h7 rfl
      · exact go2 (qfQ s.1 more[i], s.2) _ _ (by simp [qbi, *] <;> omega) h1 rfl h7 rfl
      · exact go1 (s.1, 27) _ _ g (by simp [qbi, *] <;> omega) h1 h6 (by simp [qac.set, hH]) rfl rfl
      · exact go2 (qfQ s.1 more[i], s.2) _ _ (by simp [qbi, *] <;> omega) h1 rfl h7 rfl
      · exact go1 s _ _ g (by simp [qbi, *] <;> omega) h1 h6 hH h7 rfl
    · simp -implicitDefEqProofs -dsimp +contextual (maxSteps := 9999999) (disch := first | omega | simp only [go_sem] <;> omega | refine ib ?_; kernel_rfl) only [go_sem, seval, ↓reduceIte, h1, h6, h7, h8, hl]
      (repeat' (refine qae (fun _ => ?_) (fun _ => ?_)))
      · exact go2 s _ _ (by simp [qbi, *] <;> omega) h1 h6 h7 rfl
      · exact go2 (qfQ s.1 more[i], s.2) _ _ (by simp [qbi, *] <;> omega) h1 rfl h7 rfl
      · exact go2 (s.1, 27) _ _ (by simp [qbi, *] <;> omega) h1 h6 rfl rfl
      · exact go2 (qfQ s.1 more[i], s.2) _ _ (by simp [qbi, *] <;> omega) h1 rfl h7 rfl
      · exact go2 s _ _ (by simp [qbi, *] <;> omega) h1 h6 h7 rfl
  · obtain rfl : i = more.length := by omega
    rw [List.take_length] at h6 h7
    rcases h6 with ⟨g, h6, hH⟩ | h6
    · simp -implicitDefEqProofs -dsimp +contextual (maxSteps := 9999999) (disch := first | omega | simp only [go_sem] <;> omega | refine ib ?_; kernel_rfl) only [go_sem, seval, ↓reduceIte, h1, h6, h7, h8, hl, hH]
    · simp -implicitDefEqProofs -dsimp +contextual (maxSteps := 9999999) (disch := first | omega | simp only [go_sem] <;> omega | refine ib ?_; kernel_rfl) only [go_sem, seval, ↓reduceIte, h1, h6, h7, h8, hl]
def beN (s n:Nat):List UInt8:=(List.range s).map fun i=>UInt8.ofNat (n / 2 ^ (8 * (s - 1 - i)))
@[go_sem] theorem qeA (s n:Nat):(beN s n).length=s:=by simp [beN]
theorem qmQ (s n i:Nat) (h:i<(beN s n).length):(beN s n)[i]=UInt8.ofNat (n / 2 ^ (8 * (s - 1 - i))):=by simp [beN]
theorem qs7 (ex:List Nat) (hex:ex=[]∨ex=[0]) (l:List UInt8) (n s:Nat) (hn:n≤18446744073709551615) (hs1:1≤s) (hs:s≤8) (hl:l.length≤1000000000):fn C 241 ex [.usl 1 (l.map qab),.int .u64 (n:Int),.int .i64 (s:Int)]=some (.usl 1 ((l++beN s n).map qab),[]):=by
 rcases hex with rfl | rfl
 ·rw [qaa Tryz.func241 rfl rfl Tryz.results241 qAP.1 rfl rfl (by kernel_rfl)]
  simp -implicitDefEqProofs -dsimp +contextual (maxSteps:=9999999) (disch:=first | omega | simp only [go_sem]<;>omega | refine ib ?_;kernel_rfl) only [go_sem,seval,↓reduceIte,show ¬s<1 by omega,show ¬8<s by omega]
  refine qaj (fun (i:Nat) f H=>f 0= .osl 1 (i+1) 0 (l.length+i)∧f 1= .int .u64 (n:Int)∧f 2= .int .i64 (s:Int)∧f 15= .int .i64 (s:Int)∧f 16= .int .i64 (i:Int)∧(∃e,H 1=⟨i+1,.live,1,(l++(beN s n).take i).map qab,e⟩)∧i≤s) (fun i=>s - i) (fun _=>some (.usl 1 ((l++beN s n).map qab),[])) ?_ 0 _ _ ?_
  rotate_left
  ·exact ⟨rfl,rfl,rfl,rfl,rfl,⟨_,by rw [List.take_zero,List.append_nil];rfl⟩,by omega⟩
  rintro i f H ⟨f0,f1,f2,f15,f16,⟨e,H1⟩,hi⟩ ih
  have hb:=qeA s n
  by_cases hl:i<s
  ·have e1:(s:Int) - 1 - (i:Int)=((s - 1 - i:Nat):Int):=by omega
   simp -implicitDefEqProofs -dsimp +contextual (maxSteps:=9999999) (disch:=first | omega | simp only [go_sem]<;>omega | refine ib ?_;kernel_rfl) only [go_sem,seval,↓reduceIte,f0,f1,f2,f15,f16,H1,hl,hb,e1,qdP]
   have e2:(beN s n).take (i+1)=(beN s n).take i++[UInt8.ofNat (n / 2 ^ (8 * (s - 1 - i)))]:=by
    rw [List.take_succ_eq_append_getElem (by omega),qmQ]
   rw [List.append_assoc,←e2]
   exact ih (i+1) _ _ ⟨rfl,f1,f2,f15,rfl,⟨_,rfl⟩,by omega⟩ (by omega)
  ·obtain rfl:i=s:=by omega
   simp -implicitDefEqProofs -dsimp +contextual (maxSteps:=9999999) (disch:=first | omega | simp only [go_sem]<;>omega | refine ib ?_;kernel_rfl) only [go_sem,seval,↓reduceIte,f0,f1,f2,f15,f16,H1,hl,hb]
 ·rw [qaa Tryz.func241 rfl rfl Tryz.results241 qAP.1 rfl rfl (by kernel_rfl)]
  simp -implicitDefEqProofs -dsimp +contextual (maxSteps:=9999999) (disch:=first | omega | simp only [go_sem]<;>omega | refine ib ?_;kernel_rfl) only [go_sem,seval,↓reduceIte,show ¬s<1 by omega,show ¬8<s by omega]
  refine qaj (fun (i:Nat) f H=>f 0= .osl 1 (i+1) 0 (l.length+i)∧f 1= .int .u64 (n:Int)∧f 2= .int .i64 (s:Int)∧f 15= .int .i64 (s:Int)∧f 16= .int .i64 (i:Int)∧(∃e,H 1=⟨i+1,.live,1,(l++(beN s n).take i).map qab,e⟩)∧i≤s) (fun i=>s - i) (fun _=>some (.usl 1 ((l++beN s n).map qab),[])) ?_ 0 _ _ ?_
  rotate_left
  ·exact ⟨rfl,rfl,rfl,rfl,rfl,⟨_,by rw [List.take_zero,List.append_nil];rfl⟩,by omega⟩
  rintro i f H ⟨f0,f1,f2,f15,f16,⟨e,H1⟩,hi⟩ ih
  have hb:=qeA s n
  by_cases hl:i<s
  ·have e1:(s:Int) - 1 - (i:Int)=((s - 1 - i:Nat):Int):=by omega
   simp -implicitDefEqProofs -dsimp +contextual (maxSteps:=9999999) (disch:=first | omega | simp only [go_sem]<;>omega | refine ib ?_;kernel_rfl) only [go_sem,seval,↓reduceIte,f0,f1,f2,f15,f16,H1,hl,hb,e1,qdP]
   have e2:(beN s n).take (i+1)=(beN s n).take i++[UInt8.ofNat (n / 2 ^ (8 * (s - 1 - i)))]:=by
    rw [List.take_succ_eq_append_getElem (by omega),qmQ]
   rw [List.append_assoc,←e2]
   exact ih (i+1) _ _ ⟨rfl,f1,f2,f15,rfl,⟨_,rfl⟩,by omega⟩ (by omega)
  ·obtain rfl:i=s:=by omega
   simp -implicitDefEqProofs -dsimp +contextual (maxSteps:=9999999) (disch:=first | omega | simp only [go_sem]<;>omega | refine ib ?_;kernel_rfl) only [go_sem,seval,↓reduceIte,f0,f1,f2,f15,f16,H1,hl,hb]
@[go_sem] theorem qBe (l:List UInt8) (n s:Nat) (hn:n≤18446744073709551615) (hs1:1≤OfNat.ofNat s) (hs:OfNat.ofNat s≤8) (hl:l.length≤1000000000):fn C 241 [] [.usl 1 (l.map qab),.int .u64 (n:Int),.int .i64 (no_index (OfNat.ofNat s:Int))]=some (.usl 1 ((l++beN (OfNat.ofNat s) n).map qab),[]):=qs7 [] (.inl rfl) l n (OfNat.ofNat s) hn hs1 hs hl
@[go_sem] theorem qx5 (l:List UInt8) (n s:Nat) (hn:n≤18446744073709551615) (hs1:1≤OfNat.ofNat s) (hs:OfNat.ofNat s≤8) (hl:l.length≤1000000000):fn C 241 [0] [.usl 1 (l.map qab),.int .u64 (n:Int),.int .i64 (no_index (OfNat.ofNat s:Int))]=some (.usl 1 ((l++beN (OfNat.ofNat s) n).map qab),[]):=qs7 [0] (.inr rfl) l n (OfNat.ofNat s) hn hs1 hs hl
theorem qw8 (s n k:Nat) (hk:k<s):(beN s n).drop (s - k - 1)=UInt8.ofNat (n / 2 ^ (8 * k))::(beN s n).drop (s - k):=by
 rw [List.drop_eq_getElem_cons (by rw [qeA];omega),qmQ,show s - 1 - (s - k - 1)=k by omega,show s - k - 1+1=s - k by omega]
theorem qBf (l t:List UInt8) (m:Nat) (x:UInt8):(l++(List.replicate (m+1) 0++t)).set (l.length+m) x=l++(List.replicate m 0++x::t):=by
 rw [List.set_append_right _ _ (by omega),Nat.add_sub_cancel_left,List.replicate_succ',List.append_assoc,List.set_append_right _ _ (by simp)]
 simp
theorem qFv (l:List UInt8) (n s:Nat) (hn:n≤18446744073709551615) (hs1:1≤s) (hs:s≤8) (hl:l.length≤1000000000):fn C 286 [] [.slice 1 (l.map qab),.int .u64 (n:Int),.int .i64 (s:Int)]=some (.usl 1 ((l++beN s n).map qab),[]):=by
 rw [qaa Tryz.func286 rfl rfl Tryz.results286 qEW.1 rfl rfl (by kernel_rfl)]
 simp -implicitDefEqProofs -dsimp +contextual (maxSteps:=9999999) (disch:=first | omega | simp only [go_sem]<;>omega | refine ib ?_;kernel_rfl) only [go_sem,seval,↓reduceIte,show ¬s<1 by omega,show ¬8<s by omega]
 refine qaj (fun (i:Nat) f H=>f 0= .slice 1 (l.map qab)∧f 1= .int .u64 (n:Int)∧f 2= .int .i64 (s:Int)∧f 7= .osl 117 (i+2) 0 (l.length+i)∧f 8= .int .i64 (i:Int)∧H 117=⟨i+2,.live,1,(l++List.replicate i (0:UInt8)).map qab,false⟩∧i≤s) (fun i=>s - i) (fun _=>some (.usl 1 ((l++beN s n).map qab),[])) ?_ 0 _ _ ?_
 rotate_left
 ·refine ⟨rfl,rfl,rfl,rfl,rfl,?_,by omega⟩
  rw [List.replicate_zero,List.append_nil];rfl
 rintro i f H ⟨f0,f1,f2,f7,f8,H1,hi⟩ ih
 by_cases hl:i<s
 ·have e:(l++List.replicate i (0:UInt8)).map qab++[[AVal.int IntKind.u8 0]]=(l++List.replicate (i+1) (0:UInt8)).map qab:=by
   rw [List.replicate_succ',←List.append_assoc,List.map_append (l₁:=l++_)];rfl
  simp -implicitDefEqProofs -dsimp +contextual (maxSteps:=9999999) (disch:=first | omega | simp only [go_sem]<;>omega | refine ib ?_;kernel_rfl) only [go_sem,seval,↓reduceIte,f0,f1,f2,f7,f8,H1,hl,e]
  exact ih (i+1) _ _ ⟨f0,f1,f2,rfl,rfl,rfl,by omega⟩ (by omega)
 ·obtain rfl:i=s:=by omega
  simp -implicitDefEqProofs -dsimp +contextual (maxSteps:=9999999) (disch:=first | omega | simp only [go_sem]<;>omega | refine ib ?_;kernel_rfl) only [go_sem,seval,↓reduceIte,f0,f1,f2,f7,f8,H1,hl]
  refine qaj (fun (k:Nat) f H=>f 0= .slice 1 (l.map qab)∧f 1= .int .u64 ((n / 2 ^ (8 * k):Nat):Int)∧f 7= .osl 117 (i+2) 0 (l.length+i)∧f 9= .int .i64 (((l.length+i - k:Nat):Int) - 1)∧H 117=⟨i+2,.live,1,(l++(List.replicate (i - k) (0:UInt8)++(beN i n).drop (i - k))).map qab,false⟩∧k≤i) (fun k=>i - k) (fun _=>some (.usl 1 ((l++beN i n).map qab),[])) ?_ 0 _ _ ?_
  rotate_left
  ·refine ⟨f0,?_,f7,?_,?_,by omega⟩
   ·rw [show n / 2 ^ (8 * 0)=n by simp];exact f1
   ·show AVal.int IntKind.i64 _=AVal.int IntKind.i64 _
    congr 1;omega
   ·rw [H1,Nat.sub_zero,List.drop_of_length_le (by rw [qeA];omega),List.append_nil]
  clear f0 f1 f2 f7 f8 H1 ih
  rintro k f H ⟨f0,f1,f7,f9,H1,hk⟩ ih
  by_cases hl:k<i
  ·have hq:n / 2 ^ (8 * k) / 256=n / 2 ^ (8 * (k+1)):=by rw [Nat.div_div_eq_div_mul,show 8 * (k+1)=8 * k+8 by omega,Nat.pow_add]
   have hq2:n / 2 ^ (8 * (k+1))≤n:=Nat.div_le_self ..
   have hw:IntKind.u64.wrap ((n / 2 ^ (8 * k) / 256:Nat):Int)=((n / 2 ^ (8 * (k+1)):Nat):Int):=by
    rw [hq];generalize n / 2 ^ (8 * (k+1))=q at hq2 ⊢;exact qgj (by omega) (by omega)
   have hx:UInt8.ofNat (n / 2 ^ (8 * k) % 256)=UInt8.ofNat (n / 2 ^ (8 * k)):=UInt8.toNat_inj.1 (by simp)
   have hset:=qBf l ((beN i n).drop (i - k)) (i - k - 1) (UInt8.ofNat (n / 2 ^ (8 * k)))
   rw [←qw8 i n k hl,show i - k - 1+1=i - k by omega,show l.length+(i - k - 1)=l.length+i - k - 1 by omega]at hset
   simp -implicitDefEqProofs -dsimp +contextual (maxSteps:=9999999) (disch:=first | omega | simp only [go_sem]<;>omega | refine ib ?_;kernel_rfl) only [go_sem,seval,↓reduceIte,f0,f1,f7,f9,H1,hl,qdP,hw,hx,hset]
   exact ih (k+1) _ _ ⟨f0,rfl,f7,rfl,rfl,by omega⟩ (by omega)
  ·obtain rfl:k=i:=by omega
   simp -implicitDefEqProofs -dsimp +contextual (maxSteps:=9999999) (disch:=first | omega | simp only [go_sem]<;>omega | refine ib ?_;kernel_rfl) only [go_sem,seval,↓reduceIte,f0,f1,f7,f9,H1,hl]
@[go_sem] theorem qBS (l:List UInt8) (n s:Nat) (hn:n≤18446744073709551615) (hs1:1≤OfNat.ofNat s) (hs:OfNat.ofNat s≤8) (hl:l.length≤1000000000):fn C 286 [] [.slice 1 (l.map qab),.int .u64 (n:Int),.int .i64 (no_index (OfNat.ofNat s:Int))]=some (.usl 1 ((l++beN (OfNat.ofNat s) n).map qab),[]):=qFv l n (OfNat.ofNat s) hn hs1 hs hl
end Go.Proofs.YtnpkhdjgedeppaaGreatDoor
