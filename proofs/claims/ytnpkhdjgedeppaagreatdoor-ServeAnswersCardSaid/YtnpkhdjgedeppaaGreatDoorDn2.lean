import Derived.Test.YtnpkhdjgedeppaaGreatDoorDn1
namespace Go.Am
set_option linter.unusedSimpArgs false
set_option linter.unusedSectionVars false
set_option linter.unusedVariables false
theorem qak {α:Type} {v:Option α} {a:α} {K:α→Prop} (h:v=some a) (hk:K a):qaH v K:=by rw [h];exact hk
section
variable {P:Program} {H:qac} {K:qdY} {q:Out}
theorem qlA {g n p} (h:qfW H g n p=some q) (hk:K q.1 q.2.1 q.2.2):qyn H g n p K:=by
 cases p<;>simp only [qfW,qag,Option.bind_eq_some_iff,Option.some.injEq,reduceCtorEq]at h
 case ptr=>obtain ⟨h1,h2,r,h3,h4,rfl⟩:=h;exact ⟨h1,h2,qak h3 ⟨h4,hk⟩⟩
 case iptr=>obtain ⟨h1,rfl⟩:=h;exact ⟨h1,hk⟩
theorem qjT {n p v} (h:qhQ H n p v=some q) (hk:K q.1 q.2.1 q.2.2):qxE H n p v K:=by
 simp only [qhQ,qag]at h
 obtain ⟨h1,h2,h3,h⟩:=h
 refine ⟨h1,h2,h3,?_⟩
 cases p<;>simp only [qag,Option.bind_eq_some_iff,Option.some.injEq,reduceCtorEq]at h
 case ptr=>obtain ⟨h1,h2,r,h3,h4,rfl⟩:=h;exact ⟨h1,h2,qak h3 ⟨h4,hk⟩⟩
theorem qjU {off p} (h:qhR off p=some q) (hk:K q.1 q.2.1 q.2.2):qqg off p K:=by
 cases p<;>simp only [qhR,Option.some.injEq,reduceCtorEq]at h<;>(subst h;exact hk)
theorem qlB {g off n v} (h:qow g off n v=some q) (hk:K q.1 q.2.1 q.2.2):qyo g off n v K:=by
 cases v<;>simp only [qow,qag,Option.some.injEq,reduceCtorEq]at h
 obtain ⟨h1,h2,rfl⟩:=h;exact ⟨h1,h2,hk⟩
theorem qfY {t p n} (h:qa8 P H t p n=some q) (hk:K q.1 q.2.1 q.2.2):qdZ P H t p n K:=by
 cases p<;>simp only [qa8,qag,Option.bind_eq_some_iff,Option.some.injEq,reduceCtorEq]at h
 case slice=>obtain ⟨h1,r,h2,rfl⟩:=h;exact ⟨h1,qak h2 hk⟩
 case osl=>obtain ⟨h1,h2,h3,h4,rfl⟩:=h;exact ⟨h1,h2,h3,h4,hk⟩
 case ptr=>obtain ⟨a,h1,h2,rfl⟩:=h;exact qak h1 ⟨h2,hk⟩
 case iptr=>obtain ⟨a,h1,h2,rfl⟩:=h;exact qak h1 ⟨h2,hk⟩
theorem qjV {t p n} (h:qfL P t p n=some q) (hk:K q.1 q.2.1 q.2.2):qm5 P t p n K:=by
 cases p<;>simp only [qfL,qag,Option.bind_eq_some_iff,Option.some.injEq,reduceCtorEq]at h
 case str=>obtain ⟨h1,r,h2,rfl⟩:=h;exact ⟨h1,qak h2 hk⟩
 case agg=>obtain ⟨a,h1,h2,h3,h4,rfl⟩:=h;exact qak h1 ⟨h2,h3,h4,hk⟩
theorem qoA {i v} (h:qBP i v=some q) (hk:K q.1 q.2.1 q.2.2):qGE i v K:=by
 cases v<;>simp only [qBP,Option.bind_eq_some_iff,Option.some.injEq,reduceCtorEq]at h
 obtain ⟨a,h1,rfl⟩:=h;exact qak h1 hk
theorem qjW {t p lo hi} (h:qei P H t p lo hi=some q) (hk:K q.1 q.2.1 q.2.2):qm6 P H t p lo hi K:=by
 cases p<;>simp only [qei,qag,Option.bind_eq_some_iff,Option.some.injEq,reduceCtorEq]at h
 case str=>obtain ⟨h1,a,h2,b,h3,rfl⟩:=h;exact ⟨h1,qak h2 (qak h3 hk)⟩
 case slice=>obtain ⟨h1,a,h2,b,h3,rfl⟩:=h;exact ⟨h1,qak h2 (qak h3 hk)⟩
 case osl=>obtain ⟨h0,h0',h1,a,h2,b,h3,rfl⟩:=h;exact ⟨h0,h0',h1,qak h2 (qak h3 hk)⟩
 case ptr=>obtain ⟨h0,h0',n,h1,h2,r,h3,h4,h5,a,h6,b,h7,rfl⟩:=h;exact ⟨h0,h0',qak h1 ⟨h2,qak h3 ⟨h4,h5,qak h6 (qak h7 hk)⟩⟩⟩
theorem qiF {t p lo hi mx} (h:qfp P H t p lo hi mx=some q) (hk:K q.1 q.2.1 q.2.2):qkZ P H t p lo hi mx K:=by
 cases p<;>simp only [qfp,qag,Option.bind_eq_some_iff,Option.some.injEq,reduceCtorEq]at h
 case slice=>obtain ⟨h1,m,h0,a,h2,b,h3,rfl⟩:=h;exact ⟨h1,qak h0 (qak h2 (qak h3 hk))⟩
 case osl=>
  obtain ⟨h0,h0',h1,h4,m,h6,a,h2,b,h3,h5⟩:=h
  refine ⟨h0,h0',h1,h4,qak h6 (qak h2 (qak h3 ?_))⟩
  split at h5
  ·rename_i hc
   rw [if_pos hc]
   cases h5;exact hk
  ·rename_i hc
   rw [if_neg hc]
   simp only [qag,Option.some.injEq]at h5
   obtain ⟨h5,rfl⟩:=h5
   exact ⟨h5,hk⟩
theorem qh0 {t size x} {p:List (List AVal)×List Nat} (h:qhe P H t size x=some p):qlh P H t size x p.1 p.2:=by
 unfold qhe at h
 split at h
 ·simp only [qag,Option.some.injEq]at h;obtain ⟨h1,rfl⟩:=h;exact ⟨rfl,h1,rfl⟩
 ·simp only [qag,Option.some.injEq]at h;obtain ⟨h1,h2,h3,h4,rfl⟩:=h;exact ⟨_,qaY h1 h2,h3,h4,rfl,rfl⟩
 ·simp only [qag,Option.some.injEq]at h;obtain ⟨h1,h2,rfl⟩:=h;exact ⟨h1,h2,rfl,rfl⟩
 ·simp only [Option.some.injEq]at h;subst h;exact ⟨rfl,rfl⟩
 ·simp only [Option.some.injEq]at h;subst h;exact ⟨rfl,rfl⟩
 ·cases h
theorem qlC {t size x} {p:List (List AVal)×List Nat} {K:List (List AVal)→List Nat→Prop} (h:qhe P H t size x=some p) (hk:K p.1 p.2):qyp P H t size x K:=by
 unfold qhe at h
 unfold qyp
 split at h
 ·simp only [qag,Option.some.injEq]at h;obtain ⟨h1,rfl⟩:=h;exact ⟨h1,hk⟩
 ·simp only [qag,Option.some.injEq]at h;obtain ⟨h1,h2,h3,h4,rfl⟩:=h;exact ⟨h1,h2,h3,h4,hk⟩
 ·simp only [qag,Option.some.injEq]at h;obtain ⟨h1,h2,rfl⟩:=h;exact ⟨h1,h2,hk⟩
 ·simp only [Option.some.injEq]at h;subst h;exact hk
 ·simp only [Option.some.injEq]at h;subst h;exact hk
 ·cases h
theorem qlD {s d dst v} (h:qho P H s d dst v=some q) (hk:K q.1 q.2.1 q.2.2):qtP P H s d dst v K:=by
 unfold qho at h
 unfold qtP
 split at h
 ·simp only [qag,Option.bind_eq_some_iff,Option.some.injEq]at h
  obtain ⟨h1,k,h2,rfl⟩:=h
  refine ⟨h1,?_⟩
  unfold qqq at h2
  split at h2
  ·rename_i hu
   simp only [Option.some.injEq]at h2
   subst h2
   rw [hu];exact hk
  ·cases h2
 ·split at h
  ·rename_i hs
   simp only [qag,Option.some.injEq]at h
   obtain ⟨h1,rfl⟩:=h
   simp only [hs,if_true]
   exact ⟨h1,hk⟩
  ·rename_i hs
   simp only [qag,Option.some.injEq]at h
   obtain ⟨h1,h2,h3,rfl⟩:=h
   simp only [hs,Bool.false_eq_true,if_false]
   exact ⟨h1,h2,h3,hk⟩
 ·split at h
  ·rename_i hs
   simp only [qag,Option.bind_eq_some_iff,Option.some.injEq]at h
   obtain ⟨h1,h2,p,h3,l,h4,rfl⟩:=h
   simp only [hs,if_true]
   exact ⟨h1,trivial,l,p.2,by rw [←qdn _ _ h4];exact qh0 h3,hk⟩
  ·rename_i hs
   simp only [qag,Option.some.injEq]at h
   obtain ⟨h1,h2,h3,h4,h5,rfl⟩:=h
   simp only [hs,Bool.false_eq_true,if_false]
   exact ⟨h1,h2,h3,h4,h5,hk⟩
 ·rename_i n1 n2 n3
  simp only [qag,Option.bind_eq_some_iff,Option.some.injEq]at h
  obtain ⟨h1,h2,p,h3,l,h4,rfl⟩:=h
  split
  ·exact absurd rfl (n1 _ _)
  ·exact absurd rfl (n2 _)
  ·exact absurd rfl (n3 _ _ _ _)
  ·exact ⟨h1,h2,l,p.2,by rw [←qdn _ _ h4];exact qh0 h3,hk⟩
theorem qoB {t x} (h:qtG P H t x=some q) (hk:K q.1 q.2.1 q.2.2):qFZ P H t x K:=by
 unfold qtG at h
 unfold qFZ
 split at h<;>simp only [qag,Option.bind_eq_some_iff,Option.some.injEq,reduceCtorEq]at h
 ·obtain ⟨h1,rfl⟩:=h;exact ⟨h1,hk⟩
 ·obtain ⟨h1,rfl⟩:=h;exact ⟨h1,hk⟩
 ·obtain ⟨h1,h2,h3,rfl⟩:=h;exact ⟨h1,h2,h3,hk⟩
 ·obtain ⟨h1,rfl⟩:=h;exact ⟨h1,hk⟩
 ·obtain ⟨a,h1,rfl⟩:=h;exact qak h1 hk
theorem qiG {t u dst s x} (h:qcG P H t u dst s x=some q) (hk:K q.1 q.2.1 q.2.2):qii P H t u dst s x K:=by
 simp only [qcG,qag,Option.bind_eq_some_iff]at h
 obtain ⟨size,h1,bytes,h2,z,h3,h4,h5,h6,p,h7,h8,h⟩:=h
 refine qak h1 (qak h2 (qak h3 ⟨h4,h5,h6,qlC h7 ⟨h8,?_⟩⟩))
 split at h<;>simp only [qag,Option.some.injEq,reduceCtorEq]at h
 ·obtain ⟨g1,g2,rfl⟩:=h;exact ⟨g1,g2,hk⟩
 ·obtain ⟨g1,g2,g3,g4,g5,g6,rfl⟩:=h;exact ⟨g1,g2,g3,g4,g5,g6,hk⟩
theorem qjX {t u dst s k} (h:qhS P H t u dst s k=some q) (hk:K q.1 q.2.1 q.2.2):qi7 P H t u dst s k K:=by
 cases s<;>simp only [qhS,qag,Option.bind_eq_some_iff,Option.some.injEq,reduceCtorEq]at h
 obtain ⟨h1,size,h2,h3,bytes,h4,z,h5,h6,h7,g1,g2,g4,g5,g7,g8,h⟩:=h
 refine ⟨h1,qak h2 ⟨h3,qak h4 (qak h5 ⟨h6,h7,g1,g2,g4,g5,g7,g8,?_⟩)⟩⟩
 split at h
 ·rename_i hc
  rw [if_pos hc]
  simp only [Option.some.injEq]at h
  subst h
  exact hk
 ·rename_i hc
  rw [if_neg hc]
  simp only [qag,Option.some.injEq]at h
  obtain ⟨h8,h9,rfl⟩:=h
  exact ⟨h8,h9,hk⟩
theorem qoC {t x} (h:qBQ P H t x=some q) (hk:K q.1 q.2.1 q.2.2):qGF P H t x K:=by
 cases x<;>simp only [qBQ,qag,Option.some.injEq,reduceCtorEq]at h
 obtain ⟨h1,h2,h3,h4,rfl⟩:=h;exact ⟨h1,h2,h3,h4,hk⟩
theorem qlE {t u d x} (h:qox P H t u d x=some q) (hk:K q.1 q.2.1 q.2.2):qBT P H t u d x K:=by
 simp only [qox,qag,Option.bind_eq_some_iff]at h
 obtain ⟨size,h1,p,h2,h⟩:=h
 refine qak h1 (qlC h2 ?_)
 cases d<;>simp only [qag,Option.some.injEq,reduceCtorEq]at h
 obtain ⟨g1,g2,g3,g4,g5,rfl⟩:=h;exact ⟨g1,g2,g3,g4,g5,hk⟩
end
def qlF (E:Env) (C:Orc):Prop:=∀f ex ds q,C f ex ds=some q→qdl E ex f ds q.1 q.2
theorem qcc:∀{l:List Nat},qcI l=true→l.Nodup
 | [],_=>List.nodup_nil
 | x::xs,h=>by
  simp only [qcI,Bool.and_eq_true,Bool.not_eq_true',List.contains_eq_mem,decide_eq_false_iff_not]at h
  exact List.nodup_cons.2 ⟨h.1,qcc h.2⟩
theorem qgE {u b:List Nat} (h:qdM u b=true):∀o∈u,o∉b:=fun o ho hb=>by
 have:=List.all_eq_true.1 h o ho
 simp [hb]at this
theorem qgF {H:qac}:∀{os:List Nat} {ls:List AVal},qcY H os ls=true→os.length=ls.length∧∀(k:Nat) (o:Nat) (l:AVal),os[k]?=some o→ls[k]?=some l→∃cs,l= .uptr cs∧cs.length=(H o).st
 | [],[],_=>⟨rfl,fun k o l h=>by simp at h⟩
 | [],_::_,h=>by simp [qcY]at h
 | _::_,[],h=>by simp [qcY]at h
 | o::os,l::ls,h=>by
  cases l<;>simp only [qcY,Bool.and_eq_true,decide_eq_true_eq,Bool.false_eq_true]at h
  rename_i cs
  obtain ⟨h1,h2⟩:=qgF h.2
  refine ⟨by simp [h1],fun k o' l' hk hl=>?_⟩
  cases k with
  | zero=>simp only [List.getElem?_cons_zero,Option.some.injEq]at hk hl;subst hk;subst hl;exact ⟨cs,rfl,h.1⟩
  | succ k=>exact h2 k o' l' (by simpa using hk) (by simpa using hl)
theorem qh1 {H:qac}:∀{vs ds:List AVal} {u b:List Nat} (ms:List Nat) (k:Nat),Pks H vs ds u b→∀j∈qb3 H ms k vs ds,∃i,j=k+i∧(vs[i]?=some (.sc (.slice none 0 0))∨∃o g n,vs[i]?=some (.osl o g 0 n)∧o∈u∧(H o).gen=g∧(H o).exact=true∧n=(H o).rows.length)
 | _,_,_,_,ms,k,.nil,j,hj=>by simp [qb3]at hj
 | v::vs,d::ds,_,_,ms,k,.cons (u1:=u1) (u2:=u2) h hs,j,hj=>by
  have rest:j∈qb3 H ms.tail (k+1) vs ds→∃i,j=k+i∧((v::vs)[i]?=some (.sc (.slice none 0 0))∨∃o g n,(v::vs)[i]?=some (.osl o g 0 n)∧o∈u1++u2∧(H o).gen=g∧(H o).exact=true∧n=(H o).rows.length):=fun hj=>by
   obtain ⟨i,h1,h2⟩:=qh1 ms.tail (k+1) hs j hj
   refine ⟨i+1,by omega,?_⟩
   rcases h2 with h2 | ⟨o,g,n,h2,h3,h4⟩
   ·exact .inl (by simpa using h2)
   ·exact .inr ⟨o,g,n,by simpa using h2,List.mem_append_right _ h3,h4⟩
  cases h with
  | ownS hy hm hn hr=>
   simp only [qb3]at hj
   rename_i o g n y es
   obtain ⟨z1,z2,z3⟩:=AVal.obj_spec hy
   split at hj
   ·rename_i hex
    rcases List.mem_cons.1 hj with rfl | hj
    ·exact ⟨0,rfl,.inr ⟨o,g,n,rfl,by simp,z1,hex.1,hex.2⟩⟩
    ·exact rest hj
   ·exact rest hj
  | plain hp=>exact rest (by cases v<;>simp [AVal.plain]at hp<;>simpa [qb3]using hj)
  | nilS=>exact rest (by simpa [qb3]using hj)
  | nilU=>
   simp only [qb3]at hj
   split at hj
   ·rcases List.mem_cons.1 hj with rfl | hj
    ·exact ⟨0,rfl,.inl rfl⟩
    ·exact rest hj
   ·exact rest hj
  | agg _=>exact rest (by simpa [qb3]using hj)
  | tup _=>exact rest (by simpa [qb3]using hj)
  | fn _ _=>exact rest (by simpa [qb3]using hj)
  | borS _ _ _=>exact rest (by simpa [qb3]using hj)
  | borP _ _ _=>exact rest (by simpa [qb3]using hj)
  | qht _ _ _ _=>exact rest (by simpa [qb3]using hj)
theorem qlG {E:Env} {M:Mds} {C:Orc} (hC:qlF E C) {f:FuncId} {vals:List AVal} {dst:Option Tmp} {H:qac} {K:qdY} {q:Out} (h:qeu E M C f vals dst H=some q) (hk:K q.1 q.2.1 q.2.2):qyq E f vals dst H K:=by
 simp only [qeu,qag,Option.bind_eq_some_iff]at h
 obtain ⟨h1,p,h2,h3,h4,r,h5,h6,h⟩:=h
 have hp:=qet h2
 obtain ⟨l1,l2⟩:=qgF h6
 simp only [qq2,qag,Option.some.injEq]at h
 obtain ⟨h7,rfl⟩:=h
 refine ⟨h1,p.1,r.1,r.2,p.2.1,p.2.2,_,hp,qcc h3,qgE h4,⟨qb3 H (M.par f) 0 vals p.1,hC _ _ _ _ h5,fun j hj=>?_⟩,?_,l1,l2,qcc h7,hk⟩
 ·obtain ⟨i,rfl,g1⟩:=qh1 _ 0 hp j hj
  rw [Nat.zero_add]
  exact g1
 ·split
  ·rename_i hf
   simp only [Bool.and_eq_true]at hf
   exact .inr ⟨rfl,hf.1,hf.2⟩
  ·exact .inl rfl
theorem qiH {P:Program} {H:qac} {K:qdY} {q:Out} {t p lo hi mx} (h:qfq P H t p lo hi mx=some q) (hk:K q.1 q.2.1 q.2.2):qih P H t p lo hi mx K:=by
 cases p<;>simp only [qfq,qag,Option.bind_eq_some_iff,Option.some.injEq,reduceCtorEq]at h
 obtain ⟨h0,h0',h1,h4,m,h6,a,h2,b,h3,rfl⟩:=h
 exact ⟨h0,h0',h1,h4,qak h6 (qak h2 (qak h3 hk))⟩
theorem qjY {P:Program} {H:qac} {K:qdY} {q:Out} {t u s x} (h:qhT P H t u s x=some q) (hk:K q.1 q.2.1 q.2.2):qxF P H t u s x K:=by
 simp only [qhT,qag,Option.bind_eq_some_iff]at h
 obtain ⟨size,h1,h5,h6,p,h7,h8,h⟩:=h
 refine qak h1 ⟨h5,h6,qlC h7 ⟨h8,?_⟩⟩
 cases s<;>simp only [qag,Option.some.injEq,reduceCtorEq]at h
 obtain ⟨g1,g2,g3,g4,rfl⟩:=h;exact ⟨g1,g2,g3,g4,hk⟩
theorem qjZ {P:Program} {H:qac} {K:qdY} {q:Out} {t x} (h:qhU P H t x=some q) (hk:K q.1 q.2.1 q.2.2):qqh P H t x K:=by
 cases x<;>simp only [qhU,qag,Option.bind_eq_some_iff,Option.some.injEq,reduceCtorEq]at h
 obtain ⟨size,h1,z,h2,h3,h4,g1,g2,g3,g4,rfl⟩:=h;exact qak h1 (qak h2 ⟨h3,h4,g1,g2,g3,g4,hk⟩)
theorem qhp {E:Env} {k:Nat} {b:Builtin} {args:List Operand} {ts:Array TypeId} {dst:Option Tmp} {ρ:Operand→AVal} {H:qac} {K:qdY} {q:Out} (h:qeZ E k b args ts dst ρ H=some q) (hk:K q.1 q.2.1 q.2.2):opX E (.call ⟨.builtin b,⟨args⟩,ts⟩) dst ρ H K:=by
 unfold qeZ at h
 split at h
 case h_1=>exact qoB h hk
 case h_2=>
  split at h
  ·rename_i e1 e2
   simp only [Option.some.injEq]at h;subst h
   rw [qyy,e1,e2];exact hk
  ·cases h
 case h_3=>
  split at h
  ·rename_i e1 e2
   simp only [Option.some.injEq]at h;subst h
   rw [qyz,e1,e2];exact hk
  ·cases h
 case h_4=>
  rename_i x y t u
  cases k with
  | zero=>
   refine qn4 _ _ _ _ _ ?_
   unfold qB8 at h
   generalize ρ y=vy at h ⊢
   cases vy<;>first | exact qiG h hk | exact qjX h hk
  | succ k=>exact .inr (qjY h hk)
 case h_5=>exact qjZ h hk
 case h_6=>exact qoC h hk
 case h_7=>exact qlE h hk
 case h_8=>cases h
theorem qgG {E:Env} {ex:List Nat} {f:FuncId} {ds ls:List AVal} {st:Nat} {es:List (List AVal)} (h:qdl E ex f ds (.usl st es) ls):qdl E ex f ds (.slice st es) ls:=by
 intro S w xs U hx hG hst hor hn hb
 refine (h S w xs U hx hG hst hor hn hb).mono ?_
 rintro e w' ⟨x,U',rfl,hk,⟨y,ys,U1,U2,h1,rfl,hv,hvs⟩,hnd,hb'⟩
 injection h1 with h1 h2
 subst h1;subst h2
 have hsub:∀q,qeq S U w (U1++U2) w' q→qeq S U w U2 w' q:=fun q hq=>⟨hq.1,fun hm=>hq.2.1 (List.mem_append_right _ hm),hq.2.2⟩
 refine ⟨_,U2,rfl,hk,⟨_,_,[],U2,rfl,rfl,?_,qbk.mono hsub _ _ _ (fun q hq hs=>hs.2.1 hq) hvs⟩,(List.nodup_append.1 hnd).2.1,fun b hm=>hb' b (List.mem_append_right _ hm)⟩
 obtain ⟨a,cap,rfl,hle,hc⟩:=hv
 refine ⟨⟨a,cap,rfl,hle,fun hne=>?_⟩,rfl⟩
 rcases hc with ⟨h0,_⟩|⟨h0,b,off,rfl,rfl,h2,h3,h4⟩
 ·exact absurd (List.eq_nil_of_length_eq_zero (by omega)) hne
 ·have hm:b∈[b]++U2:=by simp
  obtain ⟨g1,g2⟩:=hb' b hm
  refine ⟨b,off,rfl,⟨g1,fun hm2=>?_,?_⟩,qbV.mono (fun q hq=>hsub q hq) (fun _ _=>rfl) b rfl st es off h4⟩
  ·have:=List.nodup_append.1 hnd
   exact this.2.2 b (by simp) b hm2 rfl
  ·rcases g2 with g2 | g2
   ·exact .inr (.inr g2)
   ·exact .inr (.inl g2)
theorem qq4 {E:Env} {C:Orc} (hC:qlF E C):qlF E (qc5 C):=fun f ex ds q h=>by
 unfold qc5 at h
 rw [Option.map_eq_some_iff]at h
 obtain ⟨r,h1,rfl⟩:=h
 have:=hC f ex ds r h1
 obtain ⟨v,ls⟩:=r
 cases v<;>first | exact this | exact qgG this
theorem qB9 {E:Env} {C:Orc} (hC:qlF E C) (gh dst ρ):qlF E (ghO gh dst ρ C):=by
 unfold ghO
 split
 ·exact hC
 ·split
  ·split
   ·split
    ·exact hC
    ·exact qq4 hC
   ·exact hC
  ·exact hC
theorem qq5 {E:Env} {M:Mds} {C:Orc} (hC:qlF E C) {op:Op} {dst:Option Tmp} {ρ:Operand→AVal} {H:qac} {K:qdY} {q:Out} (h:opE E M C op dst ρ H=some q) (hk:K q.1 q.2.1 q.2.2):opX E op (shD M.base dst) ρ H K:=by
 unfold opE at h
 split at h
 case h_1=>simp only [Option.some.injEq]at h;subst h;exact hk
 case h_2=>
  unfold qyX at h
  split at h
  ·simp only [Option.some.injEq]at h;subst h;exact .inl hk
  ·split at h
   ·simp only [Option.some.injEq]at h;subst h;exact .inl hk
   ·split at h
    ·rename_i hn
     simp only [Option.some.injEq]at h;subst h;exact .inr ⟨hn,_,hk⟩
    ·simp only [Option.some.injEq]at h;subst h;exact .inl hk
 case h_3=>
  split at h
  ·rename_i t ht
   simp only [Option.some.injEq]at h;subst h
   rw [qtS,ht];exact hk
  ·cases h
 case h_4=>
  simp only [Option.bind_eq_some_iff,Option.some.injEq]at h
  obtain ⟨z,h1,rfl⟩:=h;exact qak h1 hk
 case h_5=>
  simp only [qag,Option.some.injEq]at h
  obtain ⟨h1,rfl⟩:=h;exact ⟨h1,hk⟩
 case h_6=>
  simp only [qag,Option.bind_eq_some_iff,Option.some.injEq]at h
  obtain ⟨h0,z,h1,cs,h2,rfl⟩:=h;exact ⟨h0,qak h1 (qak h2 ⟨_,_,hk⟩)⟩
 case h_7=>
  simp only [qag,Option.bind_eq_some_iff,Option.some.injEq]at h
  obtain ⟨size,h0,h1,z,h2,h3,h4,rows,h5,h⟩:=h
  refine qak h0 ⟨h1,qak h2 ⟨h3,h4,qak h5 ?_⟩⟩
  unfold bsE at h
  split at h
  ·simp only [Option.some.injEq]at h;subst h;exact .inl hk
  ·simp only [qag,Option.some.injEq]at h;obtain ⟨g1,g2,rfl⟩:=h;exact .inr ⟨g1,g2,hk⟩
 case h_8=>
  simp only [qag,Option.bind_eq_some_iff]at h
  obtain ⟨n,h0,g,h1,h2,h3⟩:=h;exact qak h0 (qak h1 ⟨h2,qlA h3 hk⟩)
 case h_9=>
  simp only [Option.bind_eq_some_iff]at h
  obtain ⟨n,h0,h3⟩:=h;exact qak h0 (qjT h3 hk)
 case h_10=>
  simp only [qag,Option.some.injEq]at h
  obtain ⟨h1,rfl⟩:=h
  rw [qi8];exact qn0 h1 hk
 case h_11=>
  simp only [Option.bind_eq_some_iff,Option.some.injEq]at h
  obtain ⟨v,h1,rfl⟩:=h;exact qak h1 hk
 case h_12=>
  simp only [Option.bind_eq_some_iff,Option.some.injEq]at h
  obtain ⟨v,h1,rfl⟩:=h;exact qak h1 hk
 case h_13=>exact qlD h hk
 case h_14=>simp only [Option.some.injEq]at h;subst h;exact hk
 case h_15=>
  split at h
  ·rename_i k1 nl k2 nc e1 e2
   simp only [qag,Option.bind_eq_some_iff,Option.some.injEq]at h
   obtain ⟨h0,h1,size,h2,h3,bytes,h4,z,h5,h6,h7,h8,rfl⟩:=h
   rw [qij,e1,e2]
   exact ⟨h0,h1,qak h2 ⟨h3,qak h4 (qak h5 ⟨h6,h7,h8,hk⟩)⟩⟩
  ·cases h
 case h_16=>rw [qqs];exact qjW h hk
 case h_17=>
  unfold qgB at h
  split at h
  ·exact .inl (qiF h hk)
  ·exact .inr (qiH h hk)
 case h_18=>
  simp only [Option.bind_eq_some_iff]at h
  obtain ⟨v,h1,h2⟩:=h;exact qak h1 (qjU h2 hk)
 case h_19=>
  simp only [Option.bind_eq_some_iff]at h
  obtain ⟨v,h1,h2⟩:=h;exact qak h1 (qlB h2 hk)
 case h_20=>
  split at h
  ·rename_i k n e
   simp only [qag]at h
   rw [qik,e]
   exact ⟨h.1,qfY h.2 hk⟩
  ·cases h
 case h_21=>
  split at h
  ·rename_i k n e
   simp only [qag]at h
   rw [qqt,e]
   exact ⟨h.1,qjV h.2 hk⟩
  ·cases h
 case h_22=>exact qoA h hk
 case h_23=>
  split at h
  ·rename_i args _ _ f first cap e
   show xFn _ (fun f first cap=>qyq E f (first++args.map ρ++cap) (shD M.base dst) H K)
   rw [e]
   exact qlG (qB9 hC _ _ _) h hk
  ·cases h
 case h_24=>exact qhp h hk
 case h_25=>
  simp only [Option.bind_eq_some_iff,Option.some.injEq]at h
  obtain ⟨v,h1,rfl⟩:=h;exact qak h1 hk
 case h_26=>cases h
end Go.Am
