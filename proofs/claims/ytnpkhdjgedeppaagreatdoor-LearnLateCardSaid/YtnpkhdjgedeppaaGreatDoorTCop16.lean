import Derived.Test.YtnpkhdjgedeppaaGreatDoorTCop4
namespace Go.Proofs.YtnpkhdjgedeppaaGreatDoor
set_option maxHeartbeats 64000000
open Go.Am
set_option linter.unusedSimpArgs false
set_option linter.unusedVariables false
set_option maxRecDepth 100000
def qKr (H:qac) (A:AVal) (l:List (List UInt8)):Prop:=∃g,A= .osl 80167 g 0 l.length∧H 80167=⟨g,.live,1,l.map qaD,false⟩
theorem qx8 (g:Int) (n:Nd) (id:Int) (i c:Nat) (j0:Jb) (hi:i<n.jobs.length) (hj0:n.jobs[i]=j0) (hcop:qdd n.jobs id=(i:Int)) (h:n.mid 100000) (ha0:j0.asked=[]) (hk0:j0.acks=0) (hw0:j0.waits=0) (H:qac) (hM:MoreS H n i c j0 (.sc (.slice none 0 0)) (.sc (.slice none 0 0)))
  (K:AVal×qac→Option Res) (R:Option Res) (q:Jb×List Ac) (hq:qcU id n.list j0=q)
  (ka:∀H' A X,MoreS H' n i c q.1 A X→qKr H' A q.1.asked→quT H' X q.2→(∀o,o<40000→H' o=H o)→0<q.1.waits→K (.tup [],H')=R)
  (kb:∀H',qiK 40106 (qaz n i q).1 (qaz n i q).2 H'→(∀o,o<40000→H' o=H o)→¬0<q.1.waits→K (.tup [],H')=R) :
  @kB _ _ (il (C1 g) 168 [.ptr 40106 1 0 0,.int .i64 id] H) ⟨K⟩=R:=by
 obtain ⟨W1,W2,W3,W4,W5⟩:=hM
 have jl:=h.jl
 have ll:=h.ll
 have pl:=qHC n (.sc (.slice none 0 0)) i hi (by rw [hj0,ha0]) id hcop (by omega)
 rw [hj0]at pl
 have row:=qcm (R:=[.int .i64 j0.id,.int .i64 j0.kind,.int .i64 j0.phase,.int .i64 j0.hops,.int .i64 j0.tries,.int .i64 j0.til,.str j0.key,.str j0.val,.str j0.owner.name,.int .u64 (j0.owner.id:Int),.int .i64 j0.owner.fr,.int .i64 j0.owner.un,.int .i64 j0.owner.ix,.str j0.owner.tag,.str j0.item.k,.str j0.item.v,.int .i64 j0.item.n,.bool j0.item.g,.int .i64 j0.acks,.int .i64 j0.waits,.sc (.slice none 0 0),.str j0.back.name,.int .u64 (j0.back.id:Int),.int .i64 j0.back.fr,.int .i64 j0.back.un,.int .i64 j0.back.ix,.str j0.back.tag,.int .i64 j0.backRid,.int .i64 j0.backJob]) hi
 rw [qag (C:=C1 g) Tryz.func168 rfl Tryz.results168 (show (C1 g).M.loc 168=_ from qx0.1) (by kernel_rfl)]
 simp -implicitDefEqProofs -dsimp +contextual (maxSteps:=9999999) (disch:=first | omega | simp only [go_sem]<;>omega | refine ib ?_;kernel_rfl) only [go_sem,seval,↓reduceIte,W1,W2,W3,W4,W5,pl,qbe,hi,row,Nat.not_lt_zero]
 clear pl row
 refine qly (.exit 0) (fun f H'=>f 0= .ptr 40106 1 0 0∧f 1= .int .i64 id∧f 4= .int .i64 (i:Nat)∧f 5= .ptr 60130 c i 0∧q.1.asked.length≤200000∧q.2.length≤100000∧(∀o,o<40000→H' o=H o)∧∃A X,MoreS H' n i c q.1 A X∧((q=(j0,[])∧A= .sc (.slice none 0 0)∧X= .sc (.slice none 0 0))∨(qKr H' A q.1.asked∧quT H' X q.2))) ?_ ?_
 ·intro Q hQ
  refine qai (fun (a:Nat×Jb×List Ac) f H'=>a.1≤n.list.length∧qoC id (n.list.drop a.1) a.2.1 a.2.2 q∧a.2.1.asked.length≤100000+a.1∧a.2.2.length≤a.1∧f 0= .ptr 40106 1 0 0∧f 1= .int .i64 id∧f 4= .int .i64 (i:Nat)∧f 5= .ptr 60130 c i 0∧f 25= .slice 8 (n.list.map Pr.cs)∧f 26= .int .i64 (n.list.length:Nat)∧f 27= .int .i64 (a.1:Nat)∧
   (∀o,o<40000→H' o=H o)∧∃A X,MoreS H' n i c a.2.1 A X∧((a=(0,j0,[])∧A= .sc (.slice none 0 0)∧X= .sc (.slice none 0 0))∨(qKr H' A a.2.1.asked∧quT H' X a.2.2))) (fun a=>n.list.length - a.1) (fun _=>R) ?_ (0,j0,[]) _ _ (by exact ⟨Nat.zero_le _,⟨by rw [List.drop_zero,hq],by rw [List.drop_zero,hq];rfl⟩,by rw [ha0];exact Nat.zero_le _,Nat.le_refl _,rfl,rfl,rfl,rfl,rfl,rfl,rfl,fun o ho=>rfl,_,_,⟨W1,W2,W3,W4,W5⟩,.inl ⟨rfl,rfl,rfl⟩⟩)
  clear W1 W2 W3 W4 W5
  rintro ⟨k,j,acts⟩ f H' ⟨hk,hI,hal2,hac,f0,f1,f4,f5,f25,f26,f27,hfr,A,X,⟨W1,W2,W3,W4,W5⟩,hAX⟩ ih
  try simp only at hk hI hal2 hac f27 W1 W4 hAX ih
  have row:=fun R=>qcm (R:=R) hi
  by_cases hl:k<n.list.length
  ·rcases hAX with ⟨he,rfl,rfl⟩|⟨⟨ga,rfl,ha⟩,hX⟩
   ·have prow:=qdP n.list k hl
    obtain ⟨rfl,rfl,rfl⟩:k=0∧j=j0∧acts=[]:=by simpa using he
    rw [List.drop_eq_getElem_cons hl]at hI
    have hfu:¬2≤qcj j.acks+qcj j.waits:=by rw [hk0,hw0];decide
    have b1:=qdp j.acks
    have b2:=qdp j.waits
    have hI':=hI.go hfu (by rw [ha0];simp)
    have nm:=qHw [] n.list[0].e.name (by simp)
    rw [decide_eq_false (by simp)]at nm
    simp only [List.map_nil]at nm
    have ih':=ih (0+1,{ j with waits:=qcj j.waits+1,asked:=j.asked++[n.list[0].e.name] },[]++[qhP n.list[0].e j.item id])
    try simp only at ih'
    clear ih
    simp -implicitDefEqProofs -dsimp +contextual (maxSteps:=9999999) (disch:=first | omega | simp only [go_sem]<;>omega | refine ib ?_;kernel_rfl) only [go_sem,seval,↓reduceIte,f0,f1,f4,f5,f25,f26,f27,hl,prow,W1,W2,W3,W4,W5,row,hfu,nm]
    refine ih' _ _ ?_ (by omega)
    refine ⟨hl,hI',by simp [ha0],by simp,f0,f1,f4,f5,f25,f26,rfl,fun o ho=>by repeat (first | exact hfr o ho | rw [qac.set_ne _ _ (by omega)]),_,_,⟨rfl,W2,W3,rfl,W5⟩,.inr ⟨⟨(H' 80167).gen+1,by rw [ha0];rfl,by rw [ha0];rfl⟩,.inr ⟨(H' 80189).gen+1,rfl,rfl⟩⟩⟩
   have prow:=qdP n.list k hl
   rw [List.drop_eq_getElem_cons hl]at hI
   have b1:=qdp j.acks
   have b2:=qdp j.waits
   by_cases hfu:2≤qcj j.acks+qcj j.waits
   ·obtain rfl:=hI.full (l':=[]) hfu
    clear ih
    simp -implicitDefEqProofs -dsimp +contextual (maxSteps:=9999999) (disch:=first | omega | simp only [go_sem]<;>omega | refine ib ?_;kernel_rfl) only [go_sem,seval,↓reduceIte,f0,f1,f4,f5,f25,f26,f27,hl,prow,W1,W2,W3,W4,W5,ha,row,hfu]
    exact hQ _ _ ⟨f0,f1,f4,f5,by simp only;omega,by simp only;omega,fun o ho=>by repeat (first | exact hfr o ho | rw [qac.set_ne _ _ (by omega)]),_,_,⟨W1,W2,W3,W4,W5⟩,.inr ⟨⟨ga,rfl,ha⟩,hX⟩⟩
   ·by_cases hm:n.list[k].e.name∈j.asked
    ·have hI':=hI.skip hfu hm
     have nm:=qHw j.asked n.list[k].e.name (by omega)
     rw [decide_eq_true hm]at nm
     have ih':=ih (k+1,j,acts)
     try simp only at ih'
     clear ih
     simp -implicitDefEqProofs -dsimp +contextual (maxSteps:=9999999) (disch:=first | omega | simp only [go_sem]<;>omega | refine ib ?_;kernel_rfl) only [go_sem,seval,↓reduceIte,f0,f1,f4,f5,f25,f26,f27,hl,prow,W1,W2,W3,W4,W5,ha,row,hfu,nm]
     refine ih' _ _ ?_ (by omega)
     exact ⟨hl,hI',by omega,by omega,f0,f1,f4,f5,f25,f26,rfl,fun o ho=>by repeat (first | exact hfr o ho | rw [qac.set_ne _ _ (by omega)]),_,_,⟨W1,W2,W3,W4,W5⟩,.inr ⟨⟨ga,rfl,ha⟩,hX⟩⟩
    ·have hI':=hI.go hfu hm
     have nm:=qHw j.asked n.list[k].e.name (by omega)
     rw [decide_eq_false hm]at nm
     have ih':=ih (k+1,{ j with waits:=qcj j.waits+1,asked:=j.asked++[n.list[k].e.name] },acts++[qhP n.list[k].e j.item id])
     try simp only at ih'
     clear ih
     rcases hX with ⟨rfl,rfl⟩|⟨gx,rfl,hX⟩
     ·simp -implicitDefEqProofs -dsimp +contextual (maxSteps:=9999999) (disch:=first | omega | simp only [go_sem]<;>omega | refine ib ?_;kernel_rfl) only [go_sem,seval,↓reduceIte,f0,f1,f4,f5,f25,f26,f27,hl,prow,W1,W2,W3,W4,W5,ha,row,hfu,nm,hal2]
      refine ih' _ _ ?_ (by omega)
      refine ⟨hl,hI',by simp;omega,by simp,f0,f1,f4,f5,f25,f26,rfl,fun o ho=>by repeat (first | exact hfr o ho | rw [qac.set_ne _ _ (by omega)]),_,_,⟨rfl,W2,W3,rfl,W5⟩,.inr ⟨⟨ga+1,by simp,by rw [List.map_append];rfl⟩,.inr ⟨(H' 80189).gen+1,rfl,rfl⟩⟩⟩
     ·simp -implicitDefEqProofs -dsimp +contextual (maxSteps:=9999999) (disch:=first | omega | simp only [go_sem]<;>omega | refine ib ?_;kernel_rfl) only [go_sem,seval,↓reduceIte,f0,f1,f4,f5,f25,f26,f27,hl,prow,W1,W2,W3,W4,W5,ha,hX,row,hfu,nm,hal2]
      refine ih' _ _ ?_ (by omega)
      refine ⟨hl,hI',by simp;omega,by simp;omega,f0,f1,f4,f5,f25,f26,rfl,fun o ho=>by repeat (first | exact hfr o ho | rw [qac.set_ne _ _ (by omega)]),_,_,⟨rfl,W2,W3,rfl,W5⟩,.inr ⟨⟨ga+1,by simp,by rw [List.map_append];rfl⟩,.inr ⟨gx+1,by simp,by rw [List.map_append];rfl⟩⟩⟩
  ·obtain rfl:k=n.list.length:=by omega
   rw [List.drop_length]at hI
   obtain rfl:=hI.done
   clear ih
   rcases hAX with ⟨he,rfl,rfl⟩|⟨⟨ga,rfl,ha⟩,hX⟩
   ·obtain ⟨h0,rfl,rfl⟩:n.list.length=0∧j=j0∧acts=[]:=by simpa using he
    simp -implicitDefEqProofs -dsimp +contextual (maxSteps:=9999999) (disch:=first | omega | simp only [go_sem]<;>omega | refine ib ?_;kernel_rfl) only [go_sem,seval,↓reduceIte,f0,f1,f4,f5,f25,f26,f27,W1,W2,W3,W4,W5,row]
    exact hQ _ _ ⟨f0,f1,f4,f5,by simp only;omega,by simp only;omega,hfr,_,_,⟨W1,W2,W3,W4,W5⟩,.inl ⟨rfl,rfl,rfl⟩⟩
   ·simp -implicitDefEqProofs -dsimp +contextual (maxSteps:=9999999) (disch:=first | omega | simp only [go_sem]<;>omega | refine ib ?_;kernel_rfl) only [go_sem,seval,↓reduceIte,f0,f1,f4,f5,f25,f26,f27,W1,W2,W3,W4,W5,ha,row]
    exact hQ _ _ ⟨f0,f1,f4,f5,by simp only;omega,by simp only;omega,hfr,_,_,⟨W1,W2,W3,W4,W5⟩,.inr ⟨⟨ga,rfl,ha⟩,hX⟩⟩
 ·clear W1 W2 W3 W4 W5
  obtain ⟨j,acts⟩:=q
  rintro f H' ⟨f0,f1,f4,f5,hjl,hql,hfr,A,X,⟨W1,W2,W3,W4,W5⟩,hAX⟩
  try simp only at W4 hAX ka kb hjl hql
  have row:=fun R=>qcm (R:=R) hi
  rcases hAX with ⟨he,rfl,rfl⟩|⟨⟨ga,rfl,ha⟩,hX⟩
  ·obtain ⟨rfl,rfl⟩:j=j0∧acts=[]:=by simpa using he
   have hw:¬0<j.waits:=by omega
   have hw':j.waits≤0:=by omega
   have hmf:qaz n i (j,[])=((qbY { n with jobs:=n.jobs.eraseIdx i } j.back j.backRid j.backJob j.item (!j.item.g) 0).1,[]++(qbY { n with jobs:=n.jobs.eraseIdx i } j.back j.backRid j.backJob j.item (!j.item.g) 0).2):=by unfold qaz;rw [if_neg hw]
   rw [hmf,List.nil_append]at kb
   clear hmf ka
   have hm':=qd5 i h
   have drp:=qKI n i hi (by rw [hj0,ha0]) (h.le (by omega))
   rw [hj0]at drp
   simp only [ha0,List.map_nil]at drp
   by_cases hj:j.backJob=0
   ·rw [qbY,if_pos hj]at kb
    have en:=qt0 { n with jobs:=n.jobs.eraseIdx i } _ _ .nil j hj (hm'.le (by omega)) (by simp)
    simp only [ha0,List.map_nil]at en
    simp -implicitDefEqProofs -dsimp +contextual (maxSteps:=9999999) (disch:=first | omega | simp only [go_sem]<;>omega | refine ib ?_;kernel_rfl) only [go_sem,seval,↓reduceIte,f0,f1,f4,f5,W1,W2,W3,W4,W5,row,hw',qbe,hi,drp,en]
    exact kb _ ⟨_,_,_,_,_,_,rfl,rfl,rfl,rfl,rfl,.inr ⟨rfl,rfl⟩⟩ (fun o ho=>by repeat (first | exact hfr o ho | rw [qac.set_ne _ _ (by omega)])) hw
   ·rw [qbY,if_neg hj]at kb
    obtain ⟨js,rs,hs⟩:=qcG { n with jobs:=n.jobs.eraseIdx i } j.backJob j.item (!j.item.g) 0
    have en:=qt1 { n with jobs:=n.jobs.eraseIdx i } _ _ .nil j hj (hm'.le (by omega))
    simp only [ha0,List.map_nil]at en
    rw [hs]at en kb
    try simp only at en kb
    simp -implicitDefEqProofs -dsimp +contextual (maxSteps:=9999999) (disch:=first | omega | simp only [go_sem]<;>omega | refine ib ?_;kernel_rfl) only [go_sem,seval,↓reduceIte,f0,f1,f4,f5,W1,W2,W3,W4,W5,row,hw',qbe,hi,drp,en]
    exact kb _ ⟨0,_,_,_,_,_,rfl,rfl,rfl,rfl,rfl,.inl ⟨rfl,rfl⟩⟩ (fun o ho=>by repeat (first | exact hfr o ho | rw [qac.set_ne _ _ (by omega)])) hw
  by_cases hw:0<j.waits
  ·have hw':¬j.waits≤0:=by omega
   simp -implicitDefEqProofs -dsimp +contextual (maxSteps:=9999999) (disch:=first | omega | simp only [go_sem]<;>omega | refine ib ?_;kernel_rfl) only [go_sem,seval,↓reduceIte,f0,f1,f4,f5,W1,W2,W3,W4,W5,ha,row,hw']
   exact ka H' _ _ ⟨W1,W2,W3,W4,W5⟩ ⟨ga,rfl,ha⟩ hX hfr hw
  ·have hw':j.waits≤0:=by omega
   have hmf:qaz n i (j,acts)=((qbY { n with jobs:=n.jobs.eraseIdx i } j.back j.backRid j.backJob j.item (!j.item.g) 0).1,acts++(qbY { n with jobs:=n.jobs.eraseIdx i } j.back j.backRid j.backJob j.item (!j.item.g) 0).2):=by unfold qaz;rw [if_neg hw]
   rw [hmf]at kb
   clear hmf ka
   have hm':=qd5 i h
   have hms:({ n with jobs:=n.jobs.set i j }:Nd).mid 1000001:=qhy i j (h.le (by omega)) (by omega)
   by_cases hj:j.backJob=0
   ·rw [qbY,if_pos hj]at kb
    rcases hX with ⟨rfl,rfl⟩|⟨gx,rfl,hX⟩
    ·have drp:=qjS { n with jobs:=n.jobs.set i j } _ _ .nil i (by simpa using hi) hms
     simp only [List.getElem_set_self,qb3]at drp
     have en:=qt0 { n with jobs:=n.jobs.eraseIdx i } _ _ .nil j hj (hm'.le (by omega)) (by simp)
     try simp only at en
     simp -implicitDefEqProofs -dsimp +contextual (maxSteps:=9999999) (disch:=first | omega | simp only [go_sem]<;>omega | refine ib ?_;kernel_rfl) only [go_sem,seval,↓reduceIte,f0,f1,f4,f5,W1,W2,W3,W4,W5,ha,row,hw',qbe,hi,drp,en]
     exact kb _ ⟨_,_,_,_,_,_,rfl,rfl,rfl,rfl,rfl,.inr ⟨rfl,rfl⟩⟩ (fun o ho=>by repeat (first | exact hfr o ho | rw [qac.set_ne _ _ (by omega)])) hw
    ·have drp:=qjS { n with jobs:=n.jobs.set i j } _ _ (.us acts) i (by simpa using hi) hms
     simp only [List.getElem_set_self,qb3]at drp
     have en:=qt0 { n with jobs:=n.jobs.eraseIdx i } _ _ (.us acts) j hj (hm'.le (by omega)) (by omega)
     try simp only at en
     simp -implicitDefEqProofs -dsimp +contextual (maxSteps:=9999999) (disch:=first | omega | simp only [go_sem]<;>omega | refine ib ?_;kernel_rfl) only [go_sem,seval,↓reduceIte,f0,f1,f4,f5,W1,W2,W3,W4,W5,ha,row,hw',qbe,hi,drp,en,hX]
     exact kb _ ⟨_,_,_,_,_,_,rfl,rfl,rfl,rfl,rfl,.inr ⟨by simp,rfl⟩⟩ (fun o ho=>by repeat (first | exact hfr o ho | rw [qac.set_ne _ _ (by omega)])) hw
   ·rw [qbY,if_neg hj]at kb
    obtain ⟨js,rs,hs⟩:=qcG { n with jobs:=n.jobs.eraseIdx i } j.backJob j.item (!j.item.g) 0
    rcases hX with ⟨rfl,rfl⟩|⟨gx,rfl,hX⟩
    ·have drp:=qjS { n with jobs:=n.jobs.set i j } _ _ .nil i (by simpa using hi) hms
     simp only [List.getElem_set_self,qb3]at drp
     have en:=qt1 { n with jobs:=n.jobs.eraseIdx i } _ _ .nil j hj (hm'.le (by omega))
     try simp only at en
     rw [hs]at en kb
     try simp only at en kb
     simp -implicitDefEqProofs -dsimp +contextual (maxSteps:=9999999) (disch:=first | omega | simp only [go_sem]<;>omega | refine ib ?_;kernel_rfl) only [go_sem,seval,↓reduceIte,f0,f1,f4,f5,W1,W2,W3,W4,W5,ha,row,hw',qbe,hi,drp,en]
     exact kb _ ⟨0,_,_,_,_,_,rfl,rfl,rfl,rfl,rfl,.inl ⟨rfl,rfl⟩⟩ (fun o ho=>by repeat (first | exact hfr o ho | rw [qac.set_ne _ _ (by omega)])) hw
    ·have drp:=qjS { n with jobs:=n.jobs.set i j } _ _ (.us acts) i (by simpa using hi) hms
     simp only [List.getElem_set_self,qb3]at drp
     have en:=qt1 { n with jobs:=n.jobs.eraseIdx i } _ _ (.us acts) j hj (hm'.le (by omega))
     try simp only at en
     rw [hs]at en kb
     try simp only at en kb
     rw [List.append_nil]at kb
     simp -implicitDefEqProofs -dsimp +contextual (maxSteps:=9999999) (disch:=first | omega | simp only [go_sem]<;>omega | refine ib ?_;kernel_rfl) only [go_sem,seval,↓reduceIte,f0,f1,f4,f5,W1,W2,W3,W4,W5,ha,row,hw',qbe,hi,drp,en,hX]
     exact kb _ ⟨_,_,_,_,_,_,rfl,rfl,rfl,rfl,rfl,.inr ⟨rfl,rfl⟩⟩ (fun o ho=>by repeat (first | exact hfr o ho | rw [qac.set_ne _ _ (by omega)])) hw
@[go_sem] theorem qMr:M.nl 166=[]:=Eq.trans rfl rfl
@[go_sem] theorem qMs:M.nl 203=[]:=Eq.trans rfl rfl
def qeq (q:Nd×List Ac):Option Res:=some (.tup [.agg q.1.ocs,.usl 20 (q.2.map Ac.cs)],[])
theorem qdm (l:List Jb) (id:Int):(∃i:Nat,i<l.length∧qdd l id=(i:Int))∨qdd l id= -1:=by
 rcases qbs l id with ⟨i,hi,hid,_,hf⟩|⟨_,hf⟩
 ·by_cases hk:l[i].kind=4
  ·exact .inl ⟨i,hi,qhw hi hf hk⟩
  ·exact .inr (qfo hi hf hk)
 ·exact .inr (qfp hf)
theorem qnF (n:Nd) (i:Nat) (j:Jb) (q:Jb×List Ac):qaz { n with jobs:=n.jobs.set i j } i q=qaz n i q:=by
 unfold qaz
 rw [List.set_set,qb3]
theorem qfQ {n:Nd} {id:Int} (h:qdd n.jobs id= -1):qf3 n id=(n,[]):=by
 unfold qf3;rw [h,if_neg (by omega)]
theorem qgL {n:Nd} {id:Int} {i:Nat} (hi:i<n.jobs.length) (h:qdd n.jobs id=(i:Int)):qf3 n id=qaz n i (qcU id n.list n.jobs[i]):=by
 unfold qf3 quO;rw [h,if_pos (by omega),Int.toNat_natCast,qa7 hi]
theorem qgf (g:Int) (n:Nd) (id:Int) (c:Nat) (hcop:qdd n.jobs id= -1) (h:n.mid 100000) (H:qac)
  (W1:H 40106=⟨1,.live,23,[[.str n.me.name,.int .u64 (n.me.id:Int),.int .i64 n.me.fr,.int .i64 n.me.un,.int .i64 n.me.ix,.str n.me.tag,.int .i64 n.clock,.str n.psk,.int .i64 n.gateI,.str n.gateK,.bool n.ready,.slice 8 (n.pred.map Pr.cs),.slice 8 (n.list.map Pr.cs),.slice 9 (n.fingers.map Fg.cs),.osl 60118 1 0 n.sessions.length,.osl 60121 1 0 n.pends.length,.slice 4 (n.items.map It.cs),.osl 60130 c 0 n.jobs.length,.int .i64 n.rid,.int .i64 n.jobId,.slice 1 (n.draws.map qat),.osl 60136 1 0 n.results.length,.sc (.slice none 0 0)]],false⟩)
  (W2:H 60118=⟨1,.live,20,n.sessions.map Se.cs,false⟩) (W3:H 60121=⟨1,.live,23,n.pends.map Pd.cs,false⟩) (W4:H 60130=⟨c,.live,29,n.jobs.map Jb.cs,false⟩) (W5:H 60136=⟨1,.live,8,n.results.map Rs.cs,false⟩)
  (K:AVal×qac→Option Res) (R:Option Res) (k:K (.tup [],H)=R):@kB _ _ (il (C1 g) 168 [.ptr 40106 1 0 0,.int .i64 id] H) ⟨K⟩=R:=by
 have jl:=h.jl
 have pl:=qow n (.sc (.slice none 0 0)) id (by omega)
 rw [hcop]at pl
 rw [qag (C:=C1 g) Tryz.func168 rfl Tryz.results168 (show (C1 g).M.loc 168=_ from qx0.1) (by kernel_rfl)]
 simp -implicitDefEqProofs -dsimp +contextual (maxSteps:=9999999) (disch:=first | omega | simp only [go_sem]<;>omega | refine ib ?_;kernel_rfl) only [go_sem,seval,↓reduceIte,W1,W2,W3,W4,W5,pl]
 exact k
theorem qHf (n:Nd) (id:Int) (t:Bool) (hcop:qdd n.jobs id= -1) (h:n.mid 100000):fn (C1 (-1)) 203 [] [(aNd n),.int .i64 id,.bool t]=qeq (n,[]):=by
 obtain ⟨g,hg⟩:∃g:Int,g= -1:=⟨_,rfl⟩
 rw [←hg]
 have jl:=h.jl
 have pl:=qow n (.sc (.slice none 0 0)) id (by omega)
 rw [hcop]at pl
 rw [qao (C:=C1 g) Tryz.func203 rfl rfl Tryz.results203 (show (C1 g).M.loc 203=_ from qCC.1) rfl rfl (by kernel_rfl)]
 simp -implicitDefEqProofs -dsimp +contextual (maxSteps:=9999999) (disch:=first | omega | simp only [go_sem]<;>omega | refine ib ?_;kernel_rfl) only [go_sem,seval,↓reduceIte]
 refine qlw n (h.le (by omega)) g (by omega) _ ?_ _ _ fun H' W hfr=>?_
 ·intro o ho;repeat (first | rfl | rw [qac.set_ne _ _ (by omega)])
 obtain ⟨W1,W2,W3,W4,W5⟩:=W
 have g4:(H' 106).gen=1:=by rw [hfr 106 (by omega)];rfl
 have m4:(H' 106).mode= .live:=by rw [hfr 106 (by omega)];rfl
 obtain ⟨r,hr,H4r⟩:∃r:List AVal,r.length=22∧(H' 106).rows=[r]:=by rw [hfr 106 (by omega)];exact ⟨_,rfl,rfl⟩
 simp -implicitDefEqProofs -dsimp +contextual (maxSteps:=9999999) (disch:=first | omega | simp only [go_sem]<;>omega | refine ib ?_;kernel_rfl) only [go_sem,seval,↓reduceIte,W1,W2,W3,W4,W5,pl]
 refine qgf g n id 1 hcop h _ W1 W2 W3 W4 W5 _ _ ?_
 simp -implicitDefEqProofs -dsimp +contextual (maxSteps:=9999999) (disch:=first | omega | simp only [go_sem]<;>omega | refine ib ?_;kernel_rfl) only [go_sem,seval,↓reduceIte]
 rw [qag (C:=C1 g) Tryz.func166 rfl Tryz.results166 (show (C1 g).M.loc 166=_ from qcN.1) (by kernel_rfl)]
 simp -implicitDefEqProofs -dsimp +contextual (maxSteps:=9999999) (disch:=first | omega | simp only [go_sem]<;>omega | refine ib ?_;kernel_rfl) only [go_sem,seval,↓reduceIte,W1,W2,W3,W4,W5,g4,m4,hr,H4r]
 rfl
theorem qnG {l:List Jb} {id:Int} {i:Nat} {j:Jb} (hi:i<l.length) (hc:qdd l id=(i:Int)) (h1:j.id=l[i].id) (h2:j.kind=l[i].kind):qdd (l.set i j) id=(i:Int):=by
 have hf:qbx l id=(i:Int):=by
  unfold qdd at hc;split at hc
  ·exact hc
  ·omega
 have hk:l[i].kind=4:=by
  unfold qdd at hc;split at hc
  ·rename_i hk;rw [hf,Int.toNat_natCast,qa7 hi]at hk;exact hk.2
  ·omega
 refine qhw (by simpa using hi) ?_ (by simpa [h2]using hk)
 rcases qbs l id with ⟨k,hk',hid,ha,hf'⟩|⟨_,hf'⟩
 ·obtain rfl:k=i:=by omega
  refine qbu (by simpa using hi) ?_ (by simp [qdU,h1,hid])
  rw [List.take_set_of_le (Nat.le_refl _)]
  exact ha
 ·omega
theorem qHg (n:Nd) (id:Int) (t:Bool) (i:Nat) (hi:i<n.jobs.length) (hcop:qdd n.jobs id=(i:Int)) (h:n.mid 100000):fn (C1 (i:Int)) 203 [] [(aNd n),.int .i64 id,.bool t]=qeq (qaz n i (qcU id n.list (qgA t n.jobs[i]))):=by
 obtain ⟨g,hg⟩:∃g:Int,g=(i:Int):=⟨_,rfl⟩
 have jl:=h.jl
 have on:=qzD n (h.le (by omega)) i hi
 have pl:=qow n (.sc (.slice none 0 0)) id (by omega)
 rw [hcop]at pl
 rw [←hg]at on ⊢
 have row:=fun R=>qcm (R:=R) hi
 have b1:=qdp n.jobs[i].acks
 have b2:=qdp n.jobs[i].waits
 rw [qao (C:=C1 g) Tryz.func203 rfl rfl Tryz.results203 (show (C1 g).M.loc 203=_ from qCC.1) rfl rfl (by kernel_rfl)]
 simp -implicitDefEqProofs -dsimp +contextual (maxSteps:=9999999) (disch:=first | omega | simp only [go_sem]<;>omega | refine ib ?_;kernel_rfl) only [go_sem,seval,↓reduceIte]
 refine on _ ?_ _ _ fun H' W W6 hfr=>?_
 ·intro o ho;repeat (first | rfl | rw [qac.set_ne _ _ (by omega)])
 obtain ⟨W1,W2,W3,W4,W5⟩:=W
 have g4:(H' 106).gen=1:=by rw [hfr 106 (by omega)];rfl
 have m4:(H' 106).mode= .live:=by rw [hfr 106 (by omega)];rfl
 obtain ⟨r,hr,H4r⟩:∃r:List AVal,r.length=22∧(H' 106).rows=[r]:=by rw [hfr 106 (by omega)];exact ⟨_,rfl,rfl⟩
 have st:n.jobs.set i n.jobs[i]=n.jobs:=List.set_getElem_self _
 simp -implicitDefEqProofs -dsimp +contextual (maxSteps:=9999999) (disch:=first | omega | simp only [go_sem]<;>omega | refine ib ?_;kernel_rfl) only [go_sem,seval,↓reduceIte,W1,W2,W3,W4,W5,W6,pl,qbe,hi,row,st,Nat.not_lt_zero]
 cases t
 ·simp -implicitDefEqProofs -dsimp +contextual (maxSteps:=9999999) (disch:=first | omega | simp only [go_sem]<;>omega | refine ib ?_;kernel_rfl) only [go_sem,seval,↓reduceIte]
  refine qjD g n id i 1 (qgA false n.jobs[i]) (.osl 60155 1 0 n.jobs[i].asked.length) hi (qnG hi hcop rfl rfl) h (show n.jobs[i].asked.length≤100000 from h.ja _ (List.getElem_mem hi)) _ ?_ ?_ _ _ _ rfl ?_ ?_
  ·exact ⟨W1,W2,W3,rfl,W5⟩
  ·exact ⟨1,rfl,W6⟩
  ·intro H2 A X M2 A2 X2 hf2 hw
   obtain ⟨Y1,Y2,Y3,Y4,Y5⟩:=M2
   have k4:(H2 106).gen=1:=by rw [hf2 106 (by omega)];exact g4
   have n4:(H2 106).mode= .live:=by rw [hf2 106 (by omega)];exact m4
   have r4:(H2 106).rows=[r]:=by rw [hf2 106 (by omega)];exact H4r
   generalize qcU id n.list (qgA false n.jobs[i])=q at *
   obtain ⟨j,acts⟩:=q
   have hmf:qaz n i (j,acts)=({ n with jobs:=n.jobs.set i j },acts):=by unfold qaz;rw [if_pos hw]
   rw [hmf]
   obtain ⟨ga,rfl,ha⟩:=A2
   try simp only at Y1 Y4 ha X2
   rcases X2 with ⟨rfl,rfl⟩|⟨gx,rfl,hX⟩
   ·simp -implicitDefEqProofs -dsimp +contextual (maxSteps:=9999999) (disch:=first | omega | simp only [go_sem]<;>omega | refine ib ?_;kernel_rfl) only [go_sem,seval,↓reduceIte]
    rw [qag (C:=C1 g) Tryz.func166 rfl Tryz.results166 (show (C1 g).M.loc 166=_ from qcN.1) (by kernel_rfl)]
    simp -implicitDefEqProofs -dsimp +contextual (maxSteps:=9999999) (disch:=first | omega | simp only [go_sem]<;>omega | refine ib ?_;kernel_rfl) only [go_sem,seval,↓reduceIte,Y1,Y2,Y3,Y4,Y5,k4,n4,hr,r4,ha,qbe,hi]
    rfl
   ·simp -implicitDefEqProofs -dsimp +contextual (maxSteps:=9999999) (disch:=first | omega | simp only [go_sem]<;>omega | refine ib ?_;kernel_rfl) only [go_sem,seval,↓reduceIte]
    rw [qag (C:=C1 g) Tryz.func166 rfl Tryz.results166 (show (C1 g).M.loc 166=_ from qcN.1) (by kernel_rfl)]
    simp -implicitDefEqProofs -dsimp +contextual (maxSteps:=9999999) (disch:=first | omega | simp only [go_sem]<;>omega | refine ib ?_;kernel_rfl) only [go_sem,seval,↓reduceIte,Y1,Y2,Y3,Y4,Y5,k4,n4,hr,r4,ha,hX,qbe,hi]
    rfl
  ·intro H2 M2 hf2 hw
   have k4:(H2 106).gen=1:=by rw [hf2 106 (by omega)];exact g4
   have n4:(H2 106).mode= .live:=by rw [hf2 106 (by omega)];exact m4
   have r4:(H2 106).rows=[r]:=by rw [hf2 106 (by omega)];exact H4r
   clear hw
   generalize qaz n i (qcU id n.list (qgA false n.jobs[i]))=q at *
   obtain ⟨m,acts⟩:=q
   unfold qiK at M2
   simp only [aNd,Nat.reduceMul,Nat.reduceAdd]at M2
   obtain ⟨A,a,b,c,d,X,Y1,Y2,Y3,Y4,Y5,hX⟩:=M2
   rcases hX with ⟨rfl,rfl⟩|⟨rfl,hX⟩
   ·simp -implicitDefEqProofs -dsimp +contextual (maxSteps:=9999999) (disch:=first | omega | simp only [go_sem]<;>omega | refine ib ?_;kernel_rfl) only [go_sem,seval,↓reduceIte]
    rw [qag (C:=C1 g) Tryz.func166 rfl Tryz.results166 (show (C1 g).M.loc 166=_ from qcN.1) (by kernel_rfl)]
    simp -implicitDefEqProofs -dsimp +contextual (maxSteps:=9999999) (disch:=first | omega | simp only [go_sem]<;>omega | refine ib ?_;kernel_rfl) only [go_sem,seval,↓reduceIte,Y1,Y2,Y3,Y4,Y5,k4,n4,hr,r4]
    rfl
   ·simp -implicitDefEqProofs -dsimp +contextual (maxSteps:=9999999) (disch:=first | omega | simp only [go_sem]<;>omega | refine ib ?_;kernel_rfl) only [go_sem,seval,↓reduceIte]
    rw [qag (C:=C1 g) Tryz.func166 rfl Tryz.results166 (show (C1 g).M.loc 166=_ from qcN.1) (by kernel_rfl)]
    simp -implicitDefEqProofs -dsimp +contextual (maxSteps:=9999999) (disch:=first | omega | simp only [go_sem]<;>omega | refine ib ?_;kernel_rfl) only [go_sem,seval,↓reduceIte,Y1,Y2,Y3,Y4,Y5,k4,n4,hr,r4,hX]
    rfl
 ·simp -implicitDefEqProofs -dsimp +contextual (maxSteps:=9999999) (disch:=first | omega | simp only [go_sem]<;>omega | refine ib ?_;kernel_rfl) only [go_sem,seval,↓reduceIte]
  refine qjD g n id i 1 (qgA true n.jobs[i]) (.osl 60155 1 0 n.jobs[i].asked.length) hi (qnG hi hcop rfl rfl) h (show n.jobs[i].asked.length≤100000 from h.ja _ (List.getElem_mem hi)) _ ?_ ?_ _ _ _ rfl ?_ ?_
  ·exact ⟨W1,W2,W3,rfl,W5⟩
  ·exact ⟨1,rfl,W6⟩
  ·intro H2 A X M2 A2 X2 hf2 hw
   obtain ⟨Y1,Y2,Y3,Y4,Y5⟩:=M2
   have k4:(H2 106).gen=1:=by rw [hf2 106 (by omega)];exact g4
   have n4:(H2 106).mode= .live:=by rw [hf2 106 (by omega)];exact m4
   have r4:(H2 106).rows=[r]:=by rw [hf2 106 (by omega)];exact H4r
   generalize qcU id n.list (qgA true n.jobs[i])=q at *
   obtain ⟨j,acts⟩:=q
   have hmf:qaz n i (j,acts)=({ n with jobs:=n.jobs.set i j },acts):=by unfold qaz;rw [if_pos hw]
   rw [hmf]
   obtain ⟨ga,rfl,ha⟩:=A2
   try simp only at Y1 Y4 ha X2
   rcases X2 with ⟨rfl,rfl⟩|⟨gx,rfl,hX⟩
   ·simp -implicitDefEqProofs -dsimp +contextual (maxSteps:=9999999) (disch:=first | omega | simp only [go_sem]<;>omega | refine ib ?_;kernel_rfl) only [go_sem,seval,↓reduceIte]
    rw [qag (C:=C1 g) Tryz.func166 rfl Tryz.results166 (show (C1 g).M.loc 166=_ from qcN.1) (by kernel_rfl)]
    simp -implicitDefEqProofs -dsimp +contextual (maxSteps:=9999999) (disch:=first | omega | simp only [go_sem]<;>omega | refine ib ?_;kernel_rfl) only [go_sem,seval,↓reduceIte,Y1,Y2,Y3,Y4,Y5,k4,n4,hr,r4,ha,qbe,hi]
    rfl
   ·simp -implicitDefEqProofs -dsimp +contextual (maxSteps:=9999999) (disch:=first | omega | simp only [go_sem]<;>omega | refine ib ?_;kernel_rfl) only [go_sem,seval,↓reduceIte]
    rw [qag (C:=C1 g) Tryz.func166 rfl Tryz.results166 (show (C1 g).M.loc 166=_ from qcN.1) (by kernel_rfl)]
    simp -implicitDefEqProofs -dsimp +contextual (maxSteps:=9999999) (disch:=first | omega | simp only [go_sem]<;>omega | refine ib ?_;kernel_rfl) only [go_sem,seval,↓reduceIte,Y1,Y2,Y3,Y4,Y5,k4,n4,hr,r4,ha,hX,qbe,hi]
    rfl
  ·intro H2 M2 hf2 hw
   have k4:(H2 106).gen=1:=by rw [hf2 106 (by omega)];exact g4
   have n4:(H2 106).mode= .live:=by rw [hf2 106 (by omega)];exact m4
   have r4:(H2 106).rows=[r]:=by rw [hf2 106 (by omega)];exact H4r
   clear hw
   generalize qaz n i (qcU id n.list (qgA true n.jobs[i]))=q at *
   obtain ⟨m,acts⟩:=q
   unfold qiK at M2
   simp only [aNd,Nat.reduceMul,Nat.reduceAdd]at M2
   obtain ⟨A,a,b,c,d,X,Y1,Y2,Y3,Y4,Y5,hX⟩:=M2
   rcases hX with ⟨rfl,rfl⟩|⟨rfl,hX⟩
   ·simp -implicitDefEqProofs -dsimp +contextual (maxSteps:=9999999) (disch:=first | omega | simp only [go_sem]<;>omega | refine ib ?_;kernel_rfl) only [go_sem,seval,↓reduceIte]
    rw [qag (C:=C1 g) Tryz.func166 rfl Tryz.results166 (show (C1 g).M.loc 166=_ from qcN.1) (by kernel_rfl)]
    simp -implicitDefEqProofs -dsimp +contextual (maxSteps:=9999999) (disch:=first | omega | simp only [go_sem]<;>omega | refine ib ?_;kernel_rfl) only [go_sem,seval,↓reduceIte,Y1,Y2,Y3,Y4,Y5,k4,n4,hr,r4]
    rfl
   ·simp -implicitDefEqProofs -dsimp +contextual (maxSteps:=9999999) (disch:=first | omega | simp only [go_sem]<;>omega | refine ib ?_;kernel_rfl) only [go_sem,seval,↓reduceIte]
    rw [qag (C:=C1 g) Tryz.func166 rfl Tryz.results166 (show (C1 g).M.loc 166=_ from qcN.1) (by kernel_rfl)]
    simp -implicitDefEqProofs -dsimp +contextual (maxSteps:=9999999) (disch:=first | omega | simp only [go_sem]<;>omega | refine ib ?_;kernel_rfl) only [go_sem,seval,↓reduceIte,Y1,Y2,Y3,Y4,Y5,k4,n4,hr,r4,hX]
    rfl
theorem qHh (n:Nd) (x:It) (back:En) (rid job:Int):n.jobs.map Jb.cs++[[.int .i64 (qbv n.jobId),.int .i64 4,.int .i64 0,.int .i64 0,.int .i64 0,.int .i64 (n.clock+192),.str [],.str [],.str [],.int .u64 0,.int .i64 0,.int .i64 0,.int .i64 0,.str [],.str x.k,.str x.v,.int .i64 x.n,.bool x.g,.int .i64 0,.int .i64 0,.slice 1 [],.str back.name,.int .u64 (back.id:Int),.int .i64 back.fr,.int .i64 back.un,.int .i64 back.ix,.str back.tag,.int .i64 rid,.int .i64 job]]=(n.jobs++[qf4 n x back rid job]).map Jb.cs:=by rw [List.map_append];rfl
theorem qCH (n:Nd) (x:It) (back:En) (rid job:Int):n.jobs.map Jb.cs++[[.int .i64 (qbv n.jobId),.int .i64 4,.int .i64 0,.int .i64 0,.int .i64 0,.int .i64 (n.clock+192),.str [],.str [],.str [],.int .u64 0,.int .i64 0,.int .i64 0,.int .i64 0,.str [],.str x.k,.str x.v,.int .i64 x.n,.bool x.g,.int .i64 0,.int .i64 0,.sc (.slice none 0 0),.str back.name,.int .u64 (back.id:Int),.int .i64 back.fr,.int .i64 back.un,.int .i64 back.ix,.str back.tag,.int .i64 rid,.int .i64 job]]=qbd (n.jobs++[qf4 n x back rid job]) n.jobs.length [.int .i64 (qbv n.jobId),.int .i64 4,.int .i64 0,.int .i64 0,.int .i64 0,.int .i64 (n.clock+192),.str [],.str [],.str [],.int .u64 0,.int .i64 0,.int .i64 0,.int .i64 0,.str [],.str x.k,.str x.v,.int .i64 x.n,.bool x.g,.int .i64 0,.int .i64 0,.sc (.slice none 0 0),.str back.name,.int .u64 (back.id:Int),.int .i64 back.fr,.int .i64 back.un,.int .i64 back.ix,.str back.tag,.int .i64 rid,.int .i64 job]:=by
 unfold qbd
 rw [List.map_append,List.set_append_right _ _ (by simp)]
 simp [qf4,jbZ,enZ]
theorem qtP (n:Nd) (i:Nat) (hi:i<n.jobs.length) (R:List AVal) (x:It) (back:En) (rid job:Int):qbd n.jobs i R++[[.int .i64 (qbv n.jobId),.int .i64 4,.int .i64 0,.int .i64 0,.int .i64 0,.int .i64 (n.clock+192),.str [],.str [],.str [],.int .u64 0,.int .i64 0,.int .i64 0,.int .i64 0,.str [],.str x.k,.str x.v,.int .i64 x.n,.bool x.g,.int .i64 0,.int .i64 0,.slice 1 [],.str back.name,.int .u64 (back.id:Int),.int .i64 back.fr,.int .i64 back.un,.int .i64 back.ix,.str back.tag,.int .i64 rid,.int .i64 job]]=qbd (n.jobs++[qf4 n x back rid job]) i R:=by
 unfold qbd
 rw [List.map_append,List.set_append_left _ _ (by simpa using hi)]
 rfl
@[go_sem] theorem qQb:M.nl 109=[]:=Eq.trans rfl rfl
theorem qx9 (n:Nd) (key val:List UInt8) (gone:Bool) (back:En) (rid job:Int) (h:n.mid 90000) (hk:key.length≤9223372036854775807) (hc:0≤n.clock∧n.clock≤1099511627776) (he:¬qaM n key val gone=0) (hj:job=0) :
  fn (C1 (-1)) 109 [] [(aNd n),.str key,.str val,.bool gone,.agg [.str back.name,.int .u64 (back.id:Int),.int .i64 back.fr,.int .i64 back.un,.int .i64 back.ix,.str back.tag],.int .i64 rid,.int .i64 job]=qeq (n,[qb9 back rid qaW (qaM n key val gone)]):=by
 obtain ⟨g,hg⟩:∃g:Int,g= -1:=⟨_,rfl⟩
 rw [←hg]
 have nl:=qym g (by omega)
 have il:=h.il
 have jl:=h.jl
 have pu:=qId n.items key val gone (by omega) hk
 have tw:=fun e=>qz4 n _ _ .nil back rid qaW false e (h.le (by omega)) (by simp)
 simp only [aNd,qek,qel,qem,qen]at tw
 subst hj
 rw [qao (C:=C1 g) Tryz.func109 rfl rfl Tryz.results109 (show (C1 g).M.loc 109=_ from qqC.1) rfl rfl (by kernel_rfl)]
 simp -implicitDefEqProofs -dsimp +contextual (maxSteps:=9999999) (disch:=first | omega | simp only [go_sem]<;>omega | refine ib ?_;kernel_rfl) only [go_sem,seval,↓reduceIte,nl]
 refine qlw n (h.le (by omega)) g (by omega) _ ?_ _ _ fun H' W hfr=>?_
 ·intro o ho;repeat (first | rfl | rw [qac.set_ne _ _ (by omega)])
 obtain ⟨W1,W2,W3,W4,W5⟩:=W
 have g4:(H' 114).gen=1:=by rw [hfr 114 (by omega)];rfl
 have m4:(H' 114).mode= .live:=by rw [hfr 114 (by omega)];rfl
 obtain ⟨r,hr,H4r⟩:∃r:List AVal,r.length=22∧(H' 114).rows=[r]:=by rw [hfr 114 (by omega)];exact ⟨_,rfl,rfl⟩
 have h11:H' 111=⟨1,.live,6,[[.str back.name,.int .u64 (back.id:Int),.int .i64 back.fr,.int .i64 back.un,.int .i64 back.ix,.str back.tag]],false⟩:=by rw [hfr 111 (by omega)];rfl
 have h18:H' 118=⟨0,.dead,0,[],false⟩:=by rw [hfr 118 (by omega)];rfl
 by_cases h8:8≤n.jobs.length
 ·have hb:qaM n key val gone=41:=by unfold qaM;rw [if_pos h8]
  rw [hb]at he ⊢
  clear hb
  have tw:=tw 41
  simp -implicitDefEqProofs -dsimp +contextual (maxSteps:=9999999) (disch:=first | omega | simp only [go_sem]<;>omega | refine ib ?_;kernel_rfl) only [go_sem,seval,↓reduceIte,nl,W1,W2,W3,W4,W5,pu,h11,h18,g4,m4,hr,H4r,h8,tw]
  rw [qag (C:=C1 g) Tryz.func166 rfl Tryz.results166 (show (C1 g).M.loc 166=_ from qcN.1) (by kernel_rfl)]
  simp -implicitDefEqProofs -dsimp +contextual (maxSteps:=9999999) (disch:=first | omega | simp only [go_sem]<;>omega | refine ib ?_;kernel_rfl) only [go_sem,seval,↓reduceIte,nl,W1,W2,W3,W4,W5,g4,m4,hr,H4r]
  rfl
 ·have hb:qaM n key val gone=(qcV n.items key val gone).2.2:=by unfold qaM;rw [if_neg h8]
  rw [hb]at he ⊢
  clear hb
  have tw:=tw (qcV n.items key val gone).2.2
  generalize qcV n.items key val gone=p at *
  obtain ⟨p1,p2,p3⟩:=p
  try simp only at he tw pu ⊢
  simp -implicitDefEqProofs -dsimp +contextual (maxSteps:=9999999) (disch:=first | omega | simp only [go_sem]<;>omega | refine ib ?_;kernel_rfl) only [go_sem,seval,↓reduceIte,nl,W1,W2,W3,W4,W5,pu,h11,h18,g4,m4,hr,H4r,h8,tw,he]
  rw [qag (C:=C1 g) Tryz.func166 rfl Tryz.results166 (show (C1 g).M.loc 166=_ from qcN.1) (by kernel_rfl)]
  simp -implicitDefEqProofs -dsimp +contextual (maxSteps:=9999999) (disch:=first | omega | simp only [go_sem]<;>omega | refine ib ?_;kernel_rfl) only [go_sem,seval,↓reduceIte,nl,W1,W2,W3,W4,W5,g4,m4,hr,H4r]
  rfl
theorem qya (n:Nd) (key val:List UInt8) (gone:Bool) (back:En) (rid job:Int) (h:n.mid 90000) (hk:key.length≤9223372036854775807) (hc:0≤n.clock∧n.clock≤1099511627776) (he:¬qaM n key val gone=0) (hj:¬job=0) :
  fn (C1 (-1)) 109 [] [(aNd n),.str key,.str val,.bool gone,.agg [.str back.name,.int .u64 (back.id:Int),.int .i64 back.fr,.int .i64 back.un,.int .i64 back.ix,.str back.tag],.int .i64 rid,.int .i64 job]=qeq (qax n job qaW false (qaM n key val gone),[]):=by
 obtain ⟨g,hg⟩:∃g:Int,g= -1:=⟨_,rfl⟩
 rw [←hg]
 have nl:=qym g (by omega)
 have il:=h.il
 have jl:=h.jl
 have pu:=qId n.items key val gone (by omega) hk
 have tw:=fun e=>qz5 n _ _ .nil back rid job qaW false e hj (h.le (by omega))
 simp only [aNd,qek,qel,qem,qen]at tw
 rw [qao (C:=C1 g) Tryz.func109 rfl rfl Tryz.results109 (show (C1 g).M.loc 109=_ from qqC.1) rfl rfl (by kernel_rfl)]
 simp -implicitDefEqProofs -dsimp +contextual (maxSteps:=9999999) (disch:=first | omega | simp only [go_sem]<;>omega | refine ib ?_;kernel_rfl) only [go_sem,seval,↓reduceIte,nl]
 refine qlw n (h.le (by omega)) g (by omega) _ ?_ _ _ fun H' W hfr=>?_
 ·intro o ho;repeat (first | rfl | rw [qac.set_ne _ _ (by omega)])
 obtain ⟨W1,W2,W3,W4,W5⟩:=W
 have g4:(H' 114).gen=1:=by rw [hfr 114 (by omega)];rfl
 have m4:(H' 114).mode= .live:=by rw [hfr 114 (by omega)];rfl
 obtain ⟨r,hr,H4r⟩:∃r:List AVal,r.length=22∧(H' 114).rows=[r]:=by rw [hfr 114 (by omega)];exact ⟨_,rfl,rfl⟩
 have h11:H' 111=⟨1,.live,6,[[.str back.name,.int .u64 (back.id:Int),.int .i64 back.fr,.int .i64 back.un,.int .i64 back.ix,.str back.tag]],false⟩:=by rw [hfr 111 (by omega)];rfl
 have h18:H' 118=⟨0,.dead,0,[],false⟩:=by rw [hfr 118 (by omega)];rfl
 by_cases h8:8≤n.jobs.length
 ·have hb:qaM n key val gone=41:=by unfold qaM;rw [if_pos h8]
  rw [hb]at he ⊢
  clear hb
  have tw:=tw 41
  obtain ⟨js,rs,hs⟩:=qcG n job qaW false 41
  rw [hs]at tw ⊢
  try simp only at tw
  simp -implicitDefEqProofs -dsimp +contextual (maxSteps:=9999999) (disch:=first | omega | simp only [go_sem]<;>omega | refine ib ?_;kernel_rfl) only [go_sem,seval,↓reduceIte,nl,W1,W2,W3,W4,W5,pu,h11,h18,g4,m4,hr,H4r,h8,tw]
  rw [qag (C:=C1 g) Tryz.func166 rfl Tryz.results166 (show (C1 g).M.loc 166=_ from qcN.1) (by kernel_rfl)]
  simp -implicitDefEqProofs -dsimp +contextual (maxSteps:=9999999) (disch:=first | omega | simp only [go_sem]<;>omega | refine ib ?_;kernel_rfl) only [go_sem,seval,↓reduceIte,nl,W1,W2,W3,W4,W5,g4,m4,hr,H4r]
  rfl
 ·have hb:qaM n key val gone=(qcV n.items key val gone).2.2:=by unfold qaM;rw [if_neg h8]
  rw [hb]at he ⊢
  clear hb
  have tw:=tw (qcV n.items key val gone).2.2
  generalize qcV n.items key val gone=p at *
  obtain ⟨p1,p2,p3⟩:=p
  try simp only at he tw pu ⊢
  obtain ⟨js,rs,hs⟩:=qcG n job qaW false p3
  rw [hs]at tw ⊢
  try simp only at tw
  simp -implicitDefEqProofs -dsimp +contextual (maxSteps:=9999999) (disch:=first | omega | simp only [go_sem]<;>omega | refine ib ?_;kernel_rfl) only [go_sem,seval,↓reduceIte,nl,W1,W2,W3,W4,W5,pu,h11,h18,g4,m4,hr,H4r,h8,tw,he]
  rw [qag (C:=C1 g) Tryz.func166 rfl Tryz.results166 (show (C1 g).M.loc 166=_ from qcN.1) (by kernel_rfl)]
  simp -implicitDefEqProofs -dsimp +contextual (maxSteps:=9999999) (disch:=first | omega | simp only [go_sem]<;>omega | refine ib ?_;kernel_rfl) only [go_sem,seval,↓reduceIte,nl,W1,W2,W3,W4,W5,g4,m4,hr,H4r]
  rfl
theorem qCI (n:Nd) (key val:List UInt8) (gone:Bool) (back:En) (rid job:Int) (h:n.mid 90000) (hk:key.length≤9223372036854775807) (hc:0≤n.clock∧n.clock≤1099511627776) (he:qaM n key val gone=0) (hcop:qdd (qas n key val gone back rid job).jobs (qbv n.jobId)= -1) :
  fn (C1 (-1)) 109 [] [(aNd n),.str key,.str val,.bool gone,.agg [.str back.name,.int .u64 (back.id:Int),.int .i64 back.fr,.int .i64 back.un,.int .i64 back.ix,.str back.tag],.int .i64 rid,.int .i64 job]=qeq (qas n key val gone back rid job,[]):=by
 obtain ⟨g,hg⟩:∃g:Int,g= -1:=⟨_,rfl⟩
 rw [←hg]
 have nl:=qym g (by omega)
 have il:=h.il
 have jl:=h.jl
 have pu:=qId n.items key val gone (by omega) hk
 have hb:qaM n key val gone=(qcV n.items key val gone).2.2:=by
  unfold qaM at he ⊢
  split at he
  ·omega
  ·rw [if_neg (by assumption)]
 have h8:¬8≤n.jobs.length:=by
  intro h8;unfold qaM at he;rw [if_pos h8]at he;omega
 rw [hb]at he
 clear hb
 have hmid:(qas n key val gone back rid job).mid 100000:=(qd6 key val gone back rid job hk h).le (by omega)
 rw [qao (C:=C1 g) Tryz.func109 rfl rfl Tryz.results109 (show (C1 g).M.loc 109=_ from qqC.1) rfl rfl (by kernel_rfl)]
 simp -implicitDefEqProofs -dsimp +contextual (maxSteps:=9999999) (disch:=first | omega | simp only [go_sem]<;>omega | refine ib ?_;kernel_rfl) only [go_sem,seval,↓reduceIte,nl]
 refine qlw n (h.le (by omega)) g (by omega) _ ?_ _ _ fun H' W hfr=>?_
 ·intro o ho;repeat (first | rfl | rw [qac.set_ne _ _ (by omega)])
 obtain ⟨W1,W2,W3,W4,W5⟩:=W
 have g4:(H' 114).gen=1:=by rw [hfr 114 (by omega)];rfl
 have m4:(H' 114).mode= .live:=by rw [hfr 114 (by omega)];rfl
 obtain ⟨r,hr,H4r⟩:∃r:List AVal,r.length=22∧(H' 114).rows=[r]:=by rw [hfr 114 (by omega)];exact ⟨_,rfl,rfl⟩
 have h11:H' 111=⟨1,.live,6,[[.str back.name,.int .u64 (back.id:Int),.int .i64 back.fr,.int .i64 back.un,.int .i64 back.ix,.str back.tag]],false⟩:=by rw [hfr 111 (by omega)];rfl
 have h18:H' 118=⟨0,.dead,0,[],false⟩:=by rw [hfr 118 (by omega)];rfl
 have hx:=qHh n (qcV n.items key val gone).2.1 back rid job
 simp -implicitDefEqProofs -dsimp +contextual (maxSteps:=9999999) (disch:=first | omega | simp only [go_sem]<;>omega | refine ib ?_;kernel_rfl) only [go_sem,seval,↓reduceIte,nl,W1,W2,W3,W4,W5,pu,h11,h18,g4,m4,hr,H4r,h8,he,hx]
 refine qgf g (qas n key val gone back rid job) (qbv n.jobId) 2 hcop hmid _ ?_ ?_ ?_ ?_ ?_ _ _ ?_
 ·rw [qas];simp -implicitDefEqProofs -dsimp +contextual (maxSteps:=9999999) (disch:=first | omega | simp only [go_sem]<;>omega | refine ib ?_;kernel_rfl) only [go_sem,seval,↓reduceIte,List.length_append,List.length_singleton]
 ·exact W2
 ·exact W3
 ·rfl
 ·exact W5
 rw [qas]
 simp -implicitDefEqProofs -dsimp +contextual (maxSteps:=9999999) (disch:=first | omega | simp only [go_sem]<;>omega | refine ib ?_;kernel_rfl) only [go_sem,seval,↓reduceIte]
 rw [qag (C:=C1 g) Tryz.func166 rfl Tryz.results166 (show (C1 g).M.loc 166=_ from qcN.1) (by kernel_rfl)]
 simp -implicitDefEqProofs -dsimp +contextual (maxSteps:=9999999) (disch:=first | omega | simp only [go_sem]<;>omega | refine ib ?_;kernel_rfl) only [go_sem,seval,↓reduceIte,nl,W1,W2,W3,W4,W5,g4,m4,hr,H4r,List.length_append,List.length_singleton]
 rfl
theorem qCJ (n:Nd) (key val:List UInt8) (gone:Bool) (back:En) (rid job:Int) (h:n.mid 90000) (hk:key.length≤9223372036854775807) (hc:0≤n.clock∧n.clock≤1099511627776) (he:qaM n key val gone=0) (i:Nat) (hi:i<n.jobs.length) (hcop:qdd (qas n key val gone back rid job).jobs (qbv n.jobId)=(i:Int)) :
  fn (C1 (i:Int)) 109 [] [(aNd n),.str key,.str val,.bool gone,.agg [.str back.name,.int .u64 (back.id:Int),.int .i64 back.fr,.int .i64 back.un,.int .i64 back.ix,.str back.tag],.int .i64 rid,.int .i64 job]=qeq (qaz (qas n key val gone back rid job) i (qcU (qbv n.jobId) (qas n key val gone back rid job).list n.jobs[i])):=by
 obtain ⟨g,hg⟩:∃g:Int,g=(i:Int):=⟨_,rfl⟩
 have on:=qzD n (h.le (by omega)) i hi
 rw [←hg]at on ⊢
 have nl:=qym g (by omega)
 have il:=h.il
 have jl:=h.jl
 have pu:=qId n.items key val gone (by omega) hk
 have hb:qaM n key val gone=(qcV n.items key val gone).2.2:=by
  unfold qaM at he ⊢
  split at he
  ·omega
  ·rw [if_neg (by assumption)]
 have h8:¬8≤n.jobs.length:=by
  intro h8;unfold qaM at he;rw [if_pos h8]at he;omega
 rw [hb]at he
 clear hb
 have hmid:(qas n key val gone back rid job).mid 100000:=(qd6 key val gone back rid job hk h).le (by omega)
 rw [qao (C:=C1 g) Tryz.func109 rfl rfl Tryz.results109 (show (C1 g).M.loc 109=_ from qqC.1) rfl rfl (by kernel_rfl)]
 simp -implicitDefEqProofs -dsimp +contextual (maxSteps:=9999999) (disch:=first | omega | simp only [go_sem]<;>omega | refine ib ?_;kernel_rfl) only [go_sem,seval,↓reduceIte,nl]
 refine on _ ?_ _ _ fun H' W W6 hfr=>?_
 ·intro o ho;repeat (first | rfl | rw [qac.set_ne _ _ (by omega)])
 obtain ⟨W1,W2,W3,W4,W5⟩:=W
 have g4:(H' 114).gen=1:=by rw [hfr 114 (by omega)];rfl
 have m4:(H' 114).mode= .live:=by rw [hfr 114 (by omega)];rfl
 obtain ⟨r,hr,H4r⟩:∃r:List AVal,r.length=22∧(H' 114).rows=[r]:=by rw [hfr 114 (by omega)];exact ⟨_,rfl,rfl⟩
 have h11:H' 111=⟨1,.live,6,[[.str back.name,.int .u64 (back.id:Int),.int .i64 back.fr,.int .i64 back.un,.int .i64 back.ix,.str back.tag]],false⟩:=by rw [hfr 111 (by omega)];rfl
 have h18:H' 118=⟨0,.dead,0,[],false⟩:=by rw [hfr 118 (by omega)];rfl
 have hx:=qtP n i hi [.int .i64 n.jobs[i].id,.int .i64 n.jobs[i].kind,.int .i64 n.jobs[i].phase,.int .i64 n.jobs[i].hops,.int .i64 n.jobs[i].tries,.int .i64 n.jobs[i].til,.str n.jobs[i].key,.str n.jobs[i].val,.str n.jobs[i].owner.name,.int .u64 (n.jobs[i].owner.id:Int),.int .i64 n.jobs[i].owner.fr,.int .i64 n.jobs[i].owner.un,.int .i64 n.jobs[i].owner.ix,.str n.jobs[i].owner.tag,.str n.jobs[i].item.k,.str n.jobs[i].item.v,.int .i64 n.jobs[i].item.n,.bool n.jobs[i].item.g,.int .i64 n.jobs[i].acks,.int .i64 n.jobs[i].waits,.osl 60155 1 0 n.jobs[i].asked.length,.str n.jobs[i].back.name,.int .u64 (n.jobs[i].back.id:Int),.int .i64 n.jobs[i].back.fr,.int .i64 n.jobs[i].back.un,.int .i64 n.jobs[i].back.ix,.str n.jobs[i].back.tag,.int .i64 n.jobs[i].backRid,.int .i64 n.jobs[i].backJob] (qcV n.items key val gone).2.1 back rid job
 simp -implicitDefEqProofs -dsimp +contextual (maxSteps:=9999999) (disch:=first | omega | simp only [go_sem]<;>omega | refine ib ?_;kernel_rfl) only [go_sem,seval,↓reduceIte,nl,W1,W2,W3,W4,W5,pu,h11,h18,g4,m4,hr,H4r,h8,he,hx]
 clear hx
 have him:i<(qas n key val gone back rid job).jobs.length:=by simp [qas];omega
 have hmj:(qas n key val gone back rid job).jobs[i]=n.jobs[i]:=List.getElem_append_left hi
 refine qjD g (qas n key val gone back rid job) (qbv n.jobId) i 2 n.jobs[i] (.osl 60155 1 0 n.jobs[i].asked.length) him (by rw [←hmj,List.set_getElem_self];exact hcop) hmid (Nat.le_trans (h.ja _ (List.getElem_mem hi)) (by omega)) _ ?_ ?_ _ _ _ rfl ?_ ?_
 ·refine ⟨?_,W2,W3,rfl,W5⟩
  rw [qas];simp -implicitDefEqProofs -dsimp +contextual (maxSteps:=9999999) (disch:=first | omega | simp only [go_sem]<;>omega | refine ib ?_;kernel_rfl) only [go_sem,seval,↓reduceIte,List.length_append,List.length_singleton]
 ·exact ⟨1,rfl,W6⟩
 ·intro H2 A X M2 A2 X2 hf2 hw
  obtain ⟨Y1,Y2,Y3,Y4,Y5⟩:=M2
  have k4:(H2 114).gen=1:=by rw [hf2 114 (by omega)];exact g4
  have n4:(H2 114).mode= .live:=by rw [hf2 114 (by omega)];exact m4
  have r4:(H2 114).rows=[r]:=by rw [hf2 114 (by omega)];exact H4r
  generalize qcU (qbv n.jobId) (qas n key val gone back rid job).list n.jobs[i]=q at *
  obtain ⟨j,acts⟩:=q
  have hmf:qaz (qas n key val gone back rid job) i (j,acts)=({ qas n key val gone back rid job with jobs:=(qas n key val gone back rid job).jobs.set i j },acts):=by unfold qaz;rw [if_pos hw]
  rw [hmf]
  clear hmf hw on
  generalize qas n key val gone back rid job=m at *
  obtain ⟨ga,rfl,ha⟩:=A2
  try simp only at Y1 Y4 ha X2
  rcases X2 with ⟨rfl,rfl⟩|⟨gx,rfl,hX⟩
  ·simp -implicitDefEqProofs -dsimp +contextual (maxSteps:=9999999) (disch:=first | omega | simp only [go_sem]<;>omega | refine ib ?_;kernel_rfl) only [go_sem,seval,↓reduceIte]
   rw [qag (C:=C1 g) Tryz.func166 rfl Tryz.results166 (show (C1 g).M.loc 166=_ from qcN.1) (by kernel_rfl)]
   simp -implicitDefEqProofs -dsimp +contextual (maxSteps:=9999999) (disch:=first | omega | simp only [go_sem]<;>omega | refine ib ?_;kernel_rfl) only [go_sem,seval,↓reduceIte,nl,Y1,Y2,Y3,Y4,Y5,k4,n4,hr,r4,ha,qbe,him]
   rfl
  ·simp -implicitDefEqProofs -dsimp +contextual (maxSteps:=9999999) (disch:=first | omega | simp only [go_sem]<;>omega | refine ib ?_;kernel_rfl) only [go_sem,seval,↓reduceIte]
   rw [qag (C:=C1 g) Tryz.func166 rfl Tryz.results166 (show (C1 g).M.loc 166=_ from qcN.1) (by kernel_rfl)]
   simp -implicitDefEqProofs -dsimp +contextual (maxSteps:=9999999) (disch:=first | omega | simp only [go_sem]<;>omega | refine ib ?_;kernel_rfl) only [go_sem,seval,↓reduceIte,nl,Y1,Y2,Y3,Y4,Y5,k4,n4,hr,r4,ha,hX,qbe,him]
   rfl
 ·intro H2 M2 hf2 hw
  have k4:(H2 114).gen=1:=by rw [hf2 114 (by omega)];exact g4
  have n4:(H2 114).mode= .live:=by rw [hf2 114 (by omega)];exact m4
  have r4:(H2 114).rows=[r]:=by rw [hf2 114 (by omega)];exact H4r
  clear hw on
  generalize qaz (qas n key val gone back rid job) i (qcU (qbv n.jobId) (qas n key val gone back rid job).list n.jobs[i])=q at *
  obtain ⟨m,acts⟩:=q
  unfold qiK at M2
  simp only [aNd,Nat.reduceMul,Nat.reduceAdd]at M2
  obtain ⟨A,a,b,c,d,X,Y1,Y2,Y3,Y4,Y5,hX⟩:=M2
  rcases hX with ⟨rfl,rfl⟩|⟨rfl,hX⟩
  ·simp -implicitDefEqProofs -dsimp +contextual (maxSteps:=9999999) (disch:=first | omega | simp only [go_sem]<;>omega | refine ib ?_;kernel_rfl) only [go_sem,seval,↓reduceIte]
   rw [qag (C:=C1 g) Tryz.func166 rfl Tryz.results166 (show (C1 g).M.loc 166=_ from qcN.1) (by kernel_rfl)]
   simp -implicitDefEqProofs -dsimp +contextual (maxSteps:=9999999) (disch:=first | omega | simp only [go_sem]<;>omega | refine ib ?_;kernel_rfl) only [go_sem,seval,↓reduceIte,nl,Y1,Y2,Y3,Y4,Y5,k4,n4,hr,r4]
   rfl
  ·simp -implicitDefEqProofs -dsimp +contextual (maxSteps:=9999999) (disch:=first | omega | simp only [go_sem]<;>omega | refine ib ?_;kernel_rfl) only [go_sem,seval,↓reduceIte]
   rw [qag (C:=C1 g) Tryz.func166 rfl Tryz.results166 (show (C1 g).M.loc 166=_ from qcN.1) (by kernel_rfl)]
   simp -implicitDefEqProofs -dsimp +contextual (maxSteps:=9999999) (disch:=first | omega | simp only [go_sem]<;>omega | refine ib ?_;kernel_rfl) only [go_sem,seval,↓reduceIte,nl,Y1,Y2,Y3,Y4,Y5,k4,n4,hr,r4,hX]
   rfl
theorem qCK (n:Nd) (key val:List UInt8) (gone:Bool) (back:En) (rid job:Int) (h:n.mid 90000) (hk:key.length≤9223372036854775807) (hc:0≤n.clock∧n.clock≤1099511627776) (he:qaM n key val gone=0) (hcop:qdd (qas n key val gone back rid job).jobs (qbv n.jobId)=(n.jobs.length:Int)) :
  fn (C1 (-2)) 109 [] [(aNd n),.str key,.str val,.bool gone,.agg [.str back.name,.int .u64 (back.id:Int),.int .i64 back.fr,.int .i64 back.un,.int .i64 back.ix,.str back.tag],.int .i64 rid,.int .i64 job]=qeq (qaz (qas n key val gone back rid job) n.jobs.length (qcU (qbv n.jobId) (qas n key val gone back rid job).list (qf4 n (qcV n.items key val gone).2.1 back rid job))):=by
 obtain ⟨g,hg⟩:∃g:Int,g= -2:=⟨_,rfl⟩
 have nl:=qKD
 rw [←hg]at nl ⊢
 have on:True:=trivial
 have il:=h.il
 have jl:=h.jl
 have pu:=qId n.items key val gone (by omega) hk
 have hb:qaM n key val gone=(qcV n.items key val gone).2.2:=by
  unfold qaM at he ⊢
  split at he
  ·omega
  ·rw [if_neg (by assumption)]
 have h8:¬8≤n.jobs.length:=by
  intro h8;unfold qaM at he;rw [if_pos h8]at he;omega
 rw [hb]at he
 clear hb
 have hmid:(qas n key val gone back rid job).mid 100000:=(qd6 key val gone back rid job hk h).le (by omega)
 rw [qao (C:=C1 g) Tryz.func109 rfl rfl Tryz.results109 (show (C1 g).M.loc 109=_ from qqC.1) rfl rfl (by kernel_rfl)]
 simp -implicitDefEqProofs -dsimp +contextual (maxSteps:=9999999) (disch:=first | omega | simp only [go_sem]<;>omega | refine ib ?_;kernel_rfl) only [go_sem,seval,↓reduceIte,nl]
 refine qlw n (h.le (by omega)) g (by omega) _ ?_ _ _ fun H' W hfr=>?_
 ·intro o ho;repeat (first | rfl | rw [qac.set_ne _ _ (by omega)])
 obtain ⟨W1,W2,W3,W4,W5⟩:=W
 have g4:(H' 114).gen=1:=by rw [hfr 114 (by omega)];rfl
 have m4:(H' 114).mode= .live:=by rw [hfr 114 (by omega)];rfl
 obtain ⟨r,hr,H4r⟩:∃r:List AVal,r.length=22∧(H' 114).rows=[r]:=by rw [hfr 114 (by omega)];exact ⟨_,rfl,rfl⟩
 have h11:H' 111=⟨1,.live,6,[[.str back.name,.int .u64 (back.id:Int),.int .i64 back.fr,.int .i64 back.un,.int .i64 back.ix,.str back.tag]],false⟩:=by rw [hfr 111 (by omega)];rfl
 have h18:H' 118=⟨0,.dead,0,[],false⟩:=by rw [hfr 118 (by omega)];rfl
 have hx:=qCH n (qcV n.items key val gone).2.1 back rid job
 simp -implicitDefEqProofs -dsimp +contextual (maxSteps:=9999999) (disch:=first | omega | simp only [go_sem]<;>omega | refine ib ?_;kernel_rfl) only [go_sem,seval,↓reduceIte,nl,W1,W2,W3,W4,W5,pu,h11,h18,g4,m4,hr,H4r,h8,he,hx]
 clear hx
 have him:n.jobs.length<(qas n key val gone back rid job).jobs.length:=by simp [qas]
 have hmj:(qas n key val gone back rid job).jobs[n.jobs.length]=qf4 n (qcV n.items key val gone).2.1 back rid job:=by simp [qas]
 refine qx8 g (qas n key val gone back rid job) (qbv n.jobId) n.jobs.length 2 (qf4 n (qcV n.items key val gone).2.1 back rid job) him hmj hcop hmid rfl rfl rfl _ ?_ _ _ _ rfl ?_ ?_
 ·refine ⟨?_,W2,W3,rfl,W5⟩
  rw [qas];simp -implicitDefEqProofs -dsimp +contextual (maxSteps:=9999999) (disch:=first | omega | simp only [go_sem]<;>omega | refine ib ?_;kernel_rfl) only [go_sem,seval,↓reduceIte,List.length_append,List.length_singleton]
 ·intro H2 A X M2 A2 X2 hf2 hw
  obtain ⟨Y1,Y2,Y3,Y4,Y5⟩:=M2
  have k4:(H2 114).gen=1:=by rw [hf2 114 (by omega)];exact g4
  have n4:(H2 114).mode= .live:=by rw [hf2 114 (by omega)];exact m4
  have r4:(H2 114).rows=[r]:=by rw [hf2 114 (by omega)];exact H4r
  generalize qcU (qbv n.jobId) (qas n key val gone back rid job).list (qf4 n (qcV n.items key val gone).2.1 back rid job)=q at *
  obtain ⟨j,acts⟩:=q
  have hmf:qaz (qas n key val gone back rid job) n.jobs.length (j,acts)=({ qas n key val gone back rid job with jobs:=(qas n key val gone back rid job).jobs.set n.jobs.length j },acts):=by unfold qaz;rw [if_pos hw]
  rw [hmf]
  clear hmf hw on
  generalize qas n key val gone back rid job=m at *
  obtain ⟨ga,rfl,ha⟩:=A2
  try simp only at Y1 Y4 ha X2
  rcases X2 with ⟨rfl,rfl⟩|⟨gx,rfl,hX⟩
  ·simp -implicitDefEqProofs -dsimp +contextual (maxSteps:=9999999) (disch:=first | omega | simp only [go_sem]<;>omega | refine ib ?_;kernel_rfl) only [go_sem,seval,↓reduceIte]
   rw [qag (C:=C1 g) Tryz.func166 rfl Tryz.results166 (show (C1 g).M.loc 166=_ from qcN.1) (by kernel_rfl)]
   simp -implicitDefEqProofs -dsimp +contextual (maxSteps:=9999999) (disch:=first | omega | simp only [go_sem]<;>omega | refine ib ?_;kernel_rfl) only [go_sem,seval,↓reduceIte,nl,Y1,Y2,Y3,Y4,Y5,k4,n4,hr,r4,ha,qbe,him]
   rfl
  ·simp -implicitDefEqProofs -dsimp +contextual (maxSteps:=9999999) (disch:=first | omega | simp only [go_sem]<;>omega | refine ib ?_;kernel_rfl) only [go_sem,seval,↓reduceIte]
   rw [qag (C:=C1 g) Tryz.func166 rfl Tryz.results166 (show (C1 g).M.loc 166=_ from qcN.1) (by kernel_rfl)]
   simp -implicitDefEqProofs -dsimp +contextual (maxSteps:=9999999) (disch:=first | omega | simp only [go_sem]<;>omega | refine ib ?_;kernel_rfl) only [go_sem,seval,↓reduceIte,nl,Y1,Y2,Y3,Y4,Y5,k4,n4,hr,r4,ha,hX,qbe,him]
   rfl
 ·intro H2 M2 hf2 hw
  have k4:(H2 114).gen=1:=by rw [hf2 114 (by omega)];exact g4
  have n4:(H2 114).mode= .live:=by rw [hf2 114 (by omega)];exact m4
  have r4:(H2 114).rows=[r]:=by rw [hf2 114 (by omega)];exact H4r
  clear hw on
  generalize qaz (qas n key val gone back rid job) n.jobs.length (qcU (qbv n.jobId) (qas n key val gone back rid job).list (qf4 n (qcV n.items key val gone).2.1 back rid job))=q at *
  obtain ⟨m,acts⟩:=q
  unfold qiK at M2
  simp only [aNd,Nat.reduceMul,Nat.reduceAdd]at M2
  obtain ⟨A,a,b,c,d,X,Y1,Y2,Y3,Y4,Y5,hX⟩:=M2
  rcases hX with ⟨rfl,rfl⟩|⟨rfl,hX⟩
  ·simp -implicitDefEqProofs -dsimp +contextual (maxSteps:=9999999) (disch:=first | omega | simp only [go_sem]<;>omega | refine ib ?_;kernel_rfl) only [go_sem,seval,↓reduceIte]
   rw [qag (C:=C1 g) Tryz.func166 rfl Tryz.results166 (show (C1 g).M.loc 166=_ from qcN.1) (by kernel_rfl)]
   simp -implicitDefEqProofs -dsimp +contextual (maxSteps:=9999999) (disch:=first | omega | simp only [go_sem]<;>omega | refine ib ?_;kernel_rfl) only [go_sem,seval,↓reduceIte,nl,Y1,Y2,Y3,Y4,Y5,k4,n4,hr,r4]
   rfl
  ·simp -implicitDefEqProofs -dsimp +contextual (maxSteps:=9999999) (disch:=first | omega | simp only [go_sem]<;>omega | refine ib ?_;kernel_rfl) only [go_sem,seval,↓reduceIte]
   rw [qag (C:=C1 g) Tryz.func166 rfl Tryz.results166 (show (C1 g).M.loc 166=_ from qcN.1) (by kernel_rfl)]
   simp -implicitDefEqProofs -dsimp +contextual (maxSteps:=9999999) (disch:=first | omega | simp only [go_sem]<;>omega | refine ib ?_;kernel_rfl) only [go_sem,seval,↓reduceIte,nl,Y1,Y2,Y3,Y4,Y5,k4,n4,hr,r4,hX]
   rfl
def jId (j:Jb):Jb:={ jbZ with id:=j.id,kind:=j.kind }
def qIR (r:List AVal):Jb:=match r with | .int _ a :: .int _ b::_=>{ jbZ with id:=a,kind:=b } | _=>jbZ
def qCL (r:List AVal):It:=match r with | [.str k,.str v,.int _ n,.bool g]=>⟨k,v,n,g⟩|_=>qaW
def qHi (v:AVal) (i:Nat):List (List AVal):=match v with | .agg cs=>(match cs[i]? with | some (.slice _ rows)=>rows | _=>[])|_=>[]
def qOx (v:AVal) (i:Nat):Int:=match v with | .agg cs=>(match cs[i]? with | some (.int _ n)=>n | _=>0)|_=>0
def ndZ:Nd:=⟨enZ,0,[],0,[],false,[],[],[],[],[],[],[],0,0,[],[]⟩
def ndA (v:AVal):Nd:={ ndZ with items:=(qHi v 16).map qCL,jobs:=(qHi v 17).map qIR,jobId:=qOx v 19 }
def gmM (ds:List AVal):Int:=match ds with | v :: .int _ id::_=>qdd (ndA v).jobs id | _=> -1
def gmB (ds:List AVal):Int:=match ds with
 | v :: .str k :: .str x :: .bool g::_=>if qaM (ndA v) k x g=0 then
   (if qdd (qas (ndA v) k x g enZ 0 0).jobs (qbv (ndA v).jobId)=((ndA v).jobs.length:Int) then -2 else qdd (qas (ndA v) k x g enZ 0 0).jobs (qbv (ndA v).jobId)) else -1
 | _=> -1
theorem qqF {α β:Type} (f:α→β) (q:β→Bool) (l:List α):qcx q (l.map f)=qcx (fun a=>q (f a)) l:=by
 unfold qcx
 rw [List.findIdx_map,List.length_map]
 rfl
theorem qjx (f:Jb→Jb) (h1:∀j,(f j).id=j.id) (h2:∀j,(f j).kind=j.kind) (l:List Jb) (id:Int):qdd (l.map f) id=qdd l id:=by
 have e:qbx (l.map f) id=qbx l id:=by
  unfold qbx
  rw [qqF]
  congr 1
  funext j
  simp [qdU,h1]
 unfold qdd
 rw [e]
 rcases qbs l id with ⟨i,hi,_,_,hf⟩|⟨_,hf⟩
 ·have e2:(qfw (l.map f) (qbx l id).toNat).kind=(qfw l (qbx l id).toNat).kind:=by
   rw [hf,Int.toNat_natCast,qa7 hi,qa7 (by simpa using hi),List.getElem_map,h2]
  rw [e2]
 ·rw [hf];simp
theorem qou (l:List Jb):(l.map Jb.cs).map qIR=l.map jId:=by
 rw [List.map_map];rfl
theorem qtQ (l:List It):(l.map It.cs).map qCL=l:=by
 rw [List.map_map]
 exact List.map_id l
theorem qHj (n:Nd) (id:Int) (rest:List AVal):gmM (((aNd n)) :: .int .i64 id::rest)=qdd n.jobs id:=by
 show qdd ((n.jobs.map Jb.cs).map qIR) id=_
 rw [qou]
 exact qjx jId (fun _=>rfl) (fun _=>rfl) _ _
theorem qHk (n:Nd) (k x:List UInt8) (g:Bool) (back:En) (rid job:Int) (rest:List AVal):gmB (((aNd n)) :: .str k :: .str x :: .bool g::rest)=
  if qaM n k x g=0 then (if qdd (qas n k x g back rid job).jobs (qbv n.jobId)=(n.jobs.length:Int) then -2 else qdd (qas n k x g back rid job).jobs (qbv n.jobId)) else -1:=by
 have e0:ndA ((aNd n))={ ndZ with items:=n.items,jobs:=n.jobs.map jId,jobId:=n.jobId }:=by
  show ({ ndZ with items:=(n.items.map It.cs).map qCL,jobs:=(n.jobs.map Jb.cs).map qIR,jobId:=n.jobId }:Nd)=_
  rw [qtQ,qou]
 show (if qaM (ndA ((aNd n))) k x g=0 then _ else _)=_
 rw [e0]
 have e1:qaM { ndZ with items:=n.items,jobs:=n.jobs.map jId,jobId:=n.jobId } k x g=qaM n k x g:=by
  unfold qaM;simp
 rw [e1]
 have e2:qdd (qas { ndZ with items:=n.items,jobs:=n.jobs.map jId,jobId:=n.jobId } k x g enZ 0 0).jobs (qbv n.jobId)=qdd (qas n k x g back rid job).jobs (qbv n.jobId):=by
  rw [←qjx jId (fun _=>rfl) (fun _=>rfl),←qjx jId (fun _=>rfl) (fun _=>rfl) (qas n k x g back rid job).jobs]
  congr 1
  simp [qas,qf4,jId,jbZ]
 simp only [e2,List.length_map]
noncomputable def qyb:Own:=fun f=>if f=109 then some (fun ex ds=>fn (C1 (gmB ds)) f ex ds) else if f=999999 then some (fun ex ds=>fn (C1 (gmM ds)) f ex ds) else if f=203 then some (fun ex ds=>fn (C1 (gmM ds)) f ex ds)
 else if f∈[999999,999999,999999,999999,999999,243,135] then none else some (fun ex ds=>fn C f ex ds)
theorem qtR:qfP E qyb:=by
 intro f g ex ds q hf hg
 unfold qyb at hf
 split at hf
 ·simp only [aNd,Option.some.injEq]at hf
  subst hf
  exact qak qa4 qnM hg
 ·split at hf
  ·simp only [aNd,Option.some.injEq]at hf
   subst hf
   exact qak qa4 qnM hg
  ·split at hf
   ·simp only [aNd,Option.some.injEq]at hf
    subst hf
    exact qak qa4 qnM hg
   ·split at hf
    ·cases hf
    ·simp only [aNd,Option.some.injEq]at hf
     subst hf
     exact qak qa4 que hg
noncomputable def C2:Cf:=⟨E,M,qyb⟩
@[go_sem] theorem qQc:C2.E=E:=rfl
@[go_sem] theorem qQd:C2.M=M:=rfl
theorem qKs (f:FuncId) (h1:f≠109) (h2:f≠999999) (h3:f≠203) (h4:f∉[999999,999999,999999,999999,999999,243,135]) (ex ds):fn C2 f ex ds=fn C f ex ds:=
 qbo (g:=fun ex ds=>fn C f ex ds) (by show qyb f=_;unfold qyb;rw [if_neg h1,if_neg h2,if_neg h3,if_neg h4]) ex ds
theorem qHl (n:Nd) (key val:List UInt8) (gone:Bool) (back:En) (rid job:Int) (h:n.mid 90000) (hk:key.length≤9223372036854775807) (hc:0≤n.clock∧n.clock≤1099511627776) :
  fn C2 109 [] [(aNd n),.str key,.str val,.bool gone,.agg [.str back.name,.int .u64 (back.id:Int),.int .i64 back.fr,.int .i64 back.un,.int .i64 back.ix,.str back.tag],.int .i64 rid,.int .i64 job]=qeq (qdR n key val gone back rid job):=by
 rw [qbo (g:=fun ex ds=>fn (C1 (gmB ds)) 109 ex ds) (by show qyb 109=_;unfold qyb;rw [if_pos rfl])]
 rw [qHk n key val gone back rid job]
 unfold qdR
 by_cases he:qaM n key val gone=0
 ·rw [if_pos he,if_pos he]
  have hlen:(qas n key val gone back rid job).jobs.length=n.jobs.length+1:=by simp [qas]
  rcases qdm (qas n key val gone back rid job).jobs (qbv n.jobId)with ⟨i,hi,hc1⟩|hc1
  ·rw [qgL hi hc1,hc1]
   by_cases hl:i=n.jobs.length
   ·subst hl
    rw [if_pos rfl,qCK n key val gone back rid job h hk hc he hc1]
    have e:(qas n key val gone back rid job).jobs[n.jobs.length]=qf4 n (qcV n.items key val gone).2.1 back rid job:=by simp [qas]
    rw [e]
   ·have hi':i<n.jobs.length:=by omega
    rw [if_neg (by omega),qCJ n key val gone back rid job h hk hc he i hi' hc1]
    have e:(qas n key val gone back rid job).jobs[i]=n.jobs[i]:=List.getElem_append_left hi'
    rw [e]
  ·rw [qfQ hc1,hc1,if_neg (by omega)]
   exact qCI n key val gone back rid job h hk hc he hc1
 ·rw [if_neg he,if_neg he]
  unfold qbY
  split
  ·rename_i hj;subst hj;exact qx9 n key val gone back rid 0 h hk hc he rfl
  ·rename_i hj;exact qya n key val gone back rid job h hk hc he hj
theorem qHm (n:Nd) (id:Int) (t:Bool) (h:n.mid 100000):fn C2 203 [] [(aNd n),.int .i64 id,.bool t]=qeq (qca n id t):=by
 rw [qbo (g:=fun ex ds=>fn (C1 (gmM ds)) 203 ex ds) (by show qyb 203=_;unfold qyb;rw [if_neg (by decide),if_neg (by decide),if_pos rfl])]
 rw [qHj n id]
 unfold qca
 rcases qdm n.jobs id with ⟨i,hi,hc⟩|hc
 ·rw [hc,if_pos (by omega),Int.toNat_natCast,qa7 hi,qgL (i:=i) (by simpa using hi) (qnG (j:=qgA t n.jobs[i]) hi hc rfl rfl),qnF]
  simp only [List.getElem_set_self]
  exact qHg n id t i hi hc h
 ·rw [hc,if_neg (by omega)];exact qHf n id t hc h
def qKt (f:FuncId):Bool:=decide (f≠109)&&decide (f≠999999)&&decide (f≠203)&&decide (f∉[999999,999999,999999,999999,999999,243,135])
theorem qKu (f:FuncId) (h:qKt f=true) (ex ds):fn C2 f ex ds=fn C f ex ds:=by
 simp only [qKt,Bool.and_eq_true,decide_eq_true_eq]at h
 exact qKs f h.1.1.1 h.1.1.2 h.1.2 h.2 ex ds
def qtS:Pr:=⟨⟨[],0,0,0,0,[]⟩,0,0⟩
@[go_sem] theorem qgM (a b:Nat):qaC a b≤18446744073709551615:=by unfold qaC;omega
@[go_sem] theorem qIS (a b:Nat) (ha:a≤18446744073709551615) (hb:b≤18446744073709551615):fn C 101 [] [.int .u64 (a:Int),.int .u64 (b:Int)]=some (.int .u64 (qaC a b:Int),[]):=by
 rw [qaa Tryz.func101 rfl rfl Tryz.results101 qFd.1 rfl rfl (by kernel_rfl)]
 by_cases h:a≤b
 ·have e:IntKind.u64.wrap ((b:Int) - a)=((qaC a b:Nat):Int):=by rw [IntKind.wrap_u64,qaC];omega
  simp -implicitDefEqProofs -dsimp +contextual (maxSteps:=9999999) (disch:=first | omega | simp only [go_sem]<;>omega | refine ib ?_;kernel_rfl) only [go_sem,seval,↓reduceIte,h,e]
  rw [show b - a=qaC a b by unfold qaC;omega]
 ·have e1:IntKind.u64.wrap (18446744073709551615 - (a:Int))=((18446744073709551615 - a:Nat):Int):=by rw [IntKind.wrap_u64];omega
  have e2:IntKind.u64.wrap (((18446744073709551615 - a+b:Nat):Int))=((18446744073709551615 - a+b:Nat):Int):=by rw [IntKind.wrap_u64];omega
  have e3:IntKind.u64.wrap (((18446744073709551615 - a+b+1:Nat):Int))=((qaC a b:Nat):Int):=by rw [IntKind.wrap_u64,qaC];omega
  simp -implicitDefEqProofs -dsimp +contextual (maxSteps:=9999999) (disch:=first | omega | simp only [go_sem]<;>omega | refine ib ?_;kernel_rfl) only [go_sem,seval,↓reduceIte,h,e1,e2,e3]
end Go.Proofs.YtnpkhdjgedeppaaGreatDoor
namespace Go.Proofs.YtnpkhdjgedeppaaGreatDoor
set_option maxHeartbeats 64000000
open Go.Am
set_option linter.unusedSimpArgs false
set_option linter.unusedVariables false
set_option maxRecDepth 100000
attribute [local irreducible] qaC
def qfk (key:Nat) (b:En) (p:Pr):En:=if qaC key p.e.id<qaC key b.id then p.e else b
def qbD (me:En) (l:List Pr) (key:Nat):En:=l.foldl (qfk key) me
theorem qlp (me:En) (l:List Pr) (key:Nat):qbD me l key=l.foldl (qfk key) me:=rfl
theorem qht {α β:Type} (f:β→α→β) (b:β) (l:List α) (i:Nat) (h:i<l.length):(l.take (i+1)).foldl f b=f ((l.take i).foldl f b) l[i]:=by
 rw [List.take_succ_eq_append_getElem h,List.foldl_append];rfl
theorem qlq (me:En) (l:List Pr) (key i:Nat) (h:i<l.length):(l.take (i+1)).foldl (qfk key) me=qfk key ((l.take i).foldl (qfk key) me) l[i]:=qht (qfk key) me l i h
theorem qCM (key:Nat) (l:List Pr) (hp:∀p∈l,p.e.id≤18446744073709551615) (me:En) (hm:me.id≤18446744073709551615):(l.foldl (qfk key) me).id≤18446744073709551615:=by
 induction l generalizing me with
 | nil=>exact hm
 | cons p l ih=>
  refine ih (fun q hq=>hp q (List.mem_cons_of_mem _ hq)) _ ?_
  unfold qfk
  split
  ·exact hp p (List.mem_cons_self ..)
  ·exact hm
@[go_sem] theorem qOy (me:En) (l:List Pr) (key:Nat) (hk:key≤18446744073709551615) (hm:me.id≤18446744073709551615) (hl:l.length≤9223372036854775807) (hp:∀p∈l,p.e.id≤18446744073709551615):fn C 128 [] [.agg [.str me.name,.int .u64 (me.id:Int),.int .i64 me.fr,.int .i64 me.un,.int .i64 me.ix,.str me.tag],.slice 8 (l.map Pr.cs),.int .u64 (key:Int)]=some (.agg [.str (qbD me l key).name,.int .u64 ((qbD me l key).id:Int),.int .i64 (qbD me l key).fr,.int .i64 (qbD me l key).un,.int .i64 (qbD me l key).ix,.str (qbD me l key).tag],[]):=by
 rw [qaa Tryz.func128 rfl rfl Tryz.results128 qFq.1 rfl rfl (by kernel_rfl)]
 rw [qlp]
 simp -implicitDefEqProofs -dsimp +contextual (maxSteps:=9999999) (disch:=first | omega | simp only [go_sem]<;>omega | refine ib ?_;kernel_rfl) only [go_sem,seval,↓reduceIte]
 refine qdb l.length (fun i f H=>f 2= .int .u64 (key:Int)∧f 6= .ptr 106 1 0 0∧f 7= .ptr 107 1 0 0∧f 11= .slice 8 (l.map Pr.cs)∧f 12= .int .i64 l.length∧f 13= .int .i64 (i:Nat)∧H 107=⟨1,.live,6,[((l.take i).foldl (qfk key) me).cs],false⟩∧(H 106).gen=1∧(H 106).mode= .live∧(∃r:List AVal,r.length=6∧(H 106).rows=[r])) ?_ ?_ (by exact ⟨rfl,rfl,rfl,rfl,rfl,rfl,rfl,rfl,rfl,⟨_,rfl,rfl⟩⟩)
 ·rintro i f H hi ⟨f2,f6,f7,f11,f12,f13,H7,H6g,H6m,H6⟩ ih
  have row:=qdP l i hi
  have hb:=qlq me l key i hi
  have h1:=hp _ (List.getElem_mem hi)
  have h2:=qCM key (l.take i) (fun q hq=>hp q (List.mem_of_mem_take hq)) me hm
  generalize (l.take i).foldl (qfk key) me=b at *
  simp -implicitDefEqProofs -dsimp +contextual (maxSteps:=9999999) (disch:=first | omega | simp only [go_sem]<;>omega | refine ib ?_;kernel_rfl) only [go_sem,seval,↓reduceIte,f2,f6,f7,f11,f12,f13,H7,hi,row,h1,h2]
  (repeat' (refine qae (fun _=>?_) (fun _=>?_)))
  ·rename_i hd
   refine ih _ _ ⟨f2,f6,f7,f11,f12,rfl,?_,by simpa [qac.set]using H6g,by simpa [qac.set]using H6m,by simpa [qac.set]using H6⟩
   rw [hb,qfk,if_pos hd];rfl
  ·rename_i hd
   refine ih _ _ ⟨f2,f6,f7,f11,f12,rfl,?_,by simpa [qac.set]using H6g,by simpa [qac.set]using H6m,by simpa [qac.set]using H6⟩
   rw [hb,qfk,if_neg hd];simp [qac.set,H7]
 ·rintro f H ⟨f2,f6,f7,f11,f12,f13,H7,H6g,H6m,r,hr,H6⟩
  rw [List.take_length]at H7
  simp -implicitDefEqProofs -dsimp +contextual (maxSteps:=9999999) (disch:=first | omega | simp only [go_sem]<;>omega | refine ib ?_;kernel_rfl) only [go_sem,seval,↓reduceIte,f2,f6,f7,f11,f12,f13,H7,H6g,H6m,H6,hr]
end Go.Proofs.YtnpkhdjgedeppaaGreatDoor
namespace Go.Proofs.YtnpkhdjgedeppaaGreatDoor
set_option maxHeartbeats 64000000
open Go.Am
set_option linter.unusedSimpArgs false
set_option linter.unusedVariables false
set_option maxRecDepth 100000
def qfl (k:List UInt8):Nat:=idB (qgR++k)
def qjy (j:Jb):Bool:=decide (j.kind=1)|| decide (j.kind=2)|| decide (j.kind=3)
def qgv (l:List Jb) (id:Int):Int:=if 0≤qbx l id∧qjy (qfw l (qbx l id).toNat)=true then qbx l id else -1
def qtT (k:List UInt8):Ms:={ msZ with kind:=6,id:=qfl k }
def qzv (j:Jb):Ms:=if j.kind=3 then { msZ with kind:=10,key:=j.key } else { msZ with kind:=8,key:=j.key,val:=j.val,gone:=decide (j.kind=2) }
def qri (n:Nd) (i:Nat) (j:Jb) (to:En) (id:Int):Nd×List Ac:=({ n with jobs:=n.jobs.set i { j with phase:=1,owner:=to } },[⟨false,to,qtT j.key,5,id⟩])
def qjz (n:Nd) (i:Nat) (id:Int):Nd×List Ac:=
 if qbD n.me n.list (qfl (qfw n.jobs i).key)=n.me then
  if (qfw n.jobs i).kind=3 then (qax n id (qdI n.items (qfw n.jobs i).key).1 ((qdI n.items (qfw n.jobs i).key).2&&!(qdI n.items (qfw n.jobs i).key).1.g) 0,[])
  else qdR { n with jobs:=n.jobs.set i { qfw n.jobs i with phase:=2 } } (qfw n.jobs i).key (qfw n.jobs i).val (decide ((qfw n.jobs i).kind=2)) enZ 0 id
 else qri n i (qfw n.jobs i) (qbD n.me n.list (qfl (qfw n.jobs i).key)) id
def qdc (n:Nd) (id e:Int):Nd×List Ac:=(qax n id qaW false e,[])
def qc0 (n:Nd) (i:Nat) (id why:Int):Nd×List Ac:=
 if 3≤(qfw n.jobs i).tries then qdc n id why else qjz { n with jobs:=n.jobs.set i { qfw n.jobs i with tries:=(qfw n.jobs i).tries+1 } } i id
def qb2 (n:Nd) (id:Int):Nd×List Ac:=if 0≤qgv n.jobs id then qc0 n (qgv n.jobs id).toNat id 43 else (n,[])
end Go.Proofs.YtnpkhdjgedeppaaGreatDoor
namespace Go.Proofs.YtnpkhdjgedeppaaGreatDoor
set_option maxHeartbeats 64000000
open Go.Am
set_option linter.unusedSimpArgs false
set_option linter.unusedVariables false
set_option maxRecDepth 100000
attribute [local irreducible] qaC idB qdL
theorem qbH (l:List Jb) (id:Int):(∃i:Nat,∃h:i<l.length,l[i].id=id∧qjy l[i]=true∧qbx l id=(i:Int)∧qgv l id=(i:Int))∨(qgv l id= -1∧((qbx l id= -1)∨∃i:Nat,∃h:i<l.length,qbx l id=(i:Int)∧qjy l[i]=false)):=by
 unfold qgv
 rcases qbs l id with ⟨i,hi,hid,_,hf⟩|⟨_,hf⟩
 ·cases hm:qjy l[i]with
  | true=>left;exact ⟨i,hi,hid,hm,hf,by rw [hf,Int.toNat_natCast,qa7 hi,if_pos ⟨by omega,hm⟩]⟩
  | false=>right;exact ⟨by rw [hf,Int.toNat_natCast,qa7 hi,if_neg (by simp [hm])],.inr ⟨i,hi,hf,hm⟩⟩
 ·right;exact ⟨by rw [hf,if_neg (by omega)],.inl hf⟩
theorem qhu (j:Jb):qjy j=true↔j.kind=1∨j.kind=2∨j.kind=3:=by
 unfold qjy;simp [or_assoc]
theorem qfR {n:Nd} {id:Int} {i:Nat} (h:qgv n.jobs id=(i:Int)):qb2 n id=qc0 n i id 43:=by
 rw [qb2,h,if_pos (by omega),Int.toNat_natCast]
end Go.Proofs.YtnpkhdjgedeppaaGreatDoor
namespace Go.Proofs.YtnpkhdjgedeppaaGreatDoor
set_option maxHeartbeats 64000000
open Go.Am
set_option linter.unusedSimpArgs false
set_option linter.unusedVariables false
set_option maxRecDepth 100000
noncomputable def qHn:Own:=fun f=>if f∈[14,16,27,23,25,20,12,999999,999999,3,4] then none else some (fun ex ds=>fn C2 f ex ds)
theorem qCN:qfP E qHn:=by
 intro f g ex ds q hf hg
 unfold qHn at hf
 split at hf
 ·cases hf
 ·simp only [Option.some.injEq]at hf
  subst hf
  exact qak qa4 qtR hg
noncomputable def M4:Mds:={ M with inls:=[(69,60000),(149,80000),(70,100000),(71,120000),(105,140000),(91,160000),(94,200000),(92,220000),(93,240000),(103,260000),(104,280000)] }
noncomputable def C4:Cf:=⟨E,M4,qHn⟩
@[go_sem] theorem qQe:C4.E=E:=rfl
@[go_sem] theorem qQf:C4.M=M4:=rfl
@[go_sem] theorem qMt:M4.par=M.par:=Eq.trans rfl rfl
@[go_sem] theorem qMu:M4.res=M.res:=Eq.trans rfl rfl
@[go_sem] theorem qMv:M4.loc=M.loc:=Eq.trans rfl rfl
@[go_sem] theorem qOz:M4.nl=M.nl:=Eq.trans rfl rfl
@[go_sem] theorem qMw:M4.cur=[]:=Eq.trans rfl rfl
@[go_sem] theorem qKv:M4.base=0:=Eq.trans rfl rfl
@[go_sem] theorem qOA:M4.gh=none:=Eq.trans rfl rfl
@[go_sem] theorem qKw:M4.inls=[(69,60000),(149,80000),(70,100000),(71,120000),(105,140000),(91,160000),(94,200000),(92,220000),(93,240000),(103,260000),(104,280000)]:=Eq.trans rfl rfl
theorem qyc (f:FuncId) (h:f∉[14,16,27,23,25,20,12,999999,999999,3,4]) (ex ds):fn C4 f ex ds=fn C2 f ex ds:=
 qbo (g:=fun ex ds=>fn C2 f ex ds) (by show qHn f=_;unfold qHn;rw [if_neg h]) ex ds
def qKx (f:FuncId):Bool:=decide (f∉[14,16,27,23,25,20,12,999999,999999,3,4])&&qKt f
theorem qrj (f:FuncId) (h:qKx f=true) (ex ds):fn C4 f ex ds=fn C f ex ds:=by
 simp only [qKx,Bool.and_eq_true,decide_eq_true_eq]at h
 exact (qyc f h.1 ex ds).trans (qKu f h.2 ex ds)
@[go_sem] theorem quX (ex ds):fn C4 13 ex ds=fn C 13 ex ds:=qrj _ (by decide) ex ds
@[go_sem] theorem quY (ex ds):fn C4 150 ex ds=fn C 150 ex ds:=qrj _ (by decide) ex ds
@[go_sem] theorem qrk (ex ds):fn C4 86 ex ds=fn C 86 ex ds:=qrj _ (by decide) ex ds
@[go_sem] theorem quZ (ex ds):fn C4 63 ex ds=fn C 63 ex ds:=qrj _ (by decide) ex ds
@[go_sem] theorem qu0 (ex ds):fn C4 128 ex ds=fn C 128 ex ds:=qrj _ (by decide) ex ds
@[go_sem] theorem qzw (ex ds):fn C4 151 ex ds=fn C 151 ex ds:=qrj _ (by decide) ex ds
@[go_sem] theorem qzx (ex ds):fn C4 45 ex ds=fn C 45 ex ds:=qrj _ (by decide) ex ds
@[go_sem] theorem qCO (ex ds):fn C4 158 ex ds=fn C 158 ex ds:=qrj _ (by decide) ex ds
@[go_sem] theorem qzy (ex ds):fn C4 88 ex ds=fn C 88 ex ds:=qrj _ (by decide) ex ds
@[go_sem] theorem qrl (ex ds):fn C4 89 ex ds=fn C 89 ex ds:=qrj _ (by decide) ex ds
@[go_sem] theorem qOB:M.nl 69=[]:=Eq.trans rfl rfl
@[go_sem] theorem qKy:M.nl 149=[]:=Eq.trans rfl rfl
@[go_sem] theorem qKz:M.nl 70=[]:=Eq.trans rfl rfl
@[go_sem] theorem qKA:M.nl 71=[]:=Eq.trans rfl rfl
@[go_sem] theorem qHo:M.nl 105=[]:=Eq.trans rfl rfl
@[go_sem] theorem qKB:M.nl 91=[]:=Eq.trans rfl rfl
@[go_sem] theorem qIT (ex ds):fn C4 90 ex ds=fn C 90 ex ds:=qrj _ (by decide) ex ds
@[go_sem] theorem qIU:M.nl 103=[]:=Eq.trans rfl rfl
@[go_sem] theorem qHp:M.nl 93=[]:=Eq.trans rfl rfl
@[go_sem] theorem qHq:M.nl 104=[]:=Eq.trans rfl rfl
@[go_sem] theorem e63 (j:Jb):fn C 63 [] [.agg [.int .i64 j.id,.int .i64 j.kind,.int .i64 j.phase,.int .i64 j.hops,.int .i64 j.tries,.int .i64 j.til,.str j.key,.str j.val,.str j.owner.name,.int .u64 (j.owner.id:Int),.int .i64 j.owner.fr,.int .i64 j.owner.un,.int .i64 j.owner.ix,.str j.owner.tag,.str j.item.k,.str j.item.v,.int .i64 j.item.n,.bool j.item.g,.int .i64 j.acks,.int .i64 j.waits,.slice 1 (j.asked.map qaD),.str j.back.name,.int .u64 (j.back.id:Int),.int .i64 j.back.fr,.int .i64 j.back.un,.int .i64 j.back.ix,.str j.back.tag,.int .i64 j.backRid,.int .i64 j.backJob]]=some (.bool (qjy j),[]):=by
 rw [qaa Tryz.func63 rfl rfl Tryz.results63 qL2.1 rfl rfl (by kernel_rfl)]
 simp -implicitDefEqProofs -dsimp +contextual (maxSteps:=9999999) (disch:=first | omega | simp only [go_sem]<;>omega | refine ib ?_;kernel_rfl) only [go_sem,seval,↓reduceIte]
 (repeat' (refine qae (fun _=>?_) (fun _=>?_)))<;>exact qaw (by unfold qjy;simp [*])
theorem qiI (c0 c1 c2 c3 c4 c5 c6 c7 c8 c9 c10 c11 c12 c13 c14 c15 c16 c17 c18 c19 c20 c21 r0 r1 r2 r3 r4 r5 r7 r8 r9 r10 r11 r12 r13 r14 r15 r16 r17 r18 r19 r20 r21 r22 r23 r24 r25 r26 r27 r28 X F:AVal) (key:List UInt8) (hk:key.length≤10000):fn C 90 [] [.iptr [c0,c1,c2,c3,c4,c5,c6,c7,c8,c9,c10,c11,c12,c13,c14,c15,c16,c17,c18,c19,c20,c21,.iptr [r0,r1,r2,r3,r4,r5,.str key,r7,r8,r9,r10,r11,r12,r13,r14,r15,r16,r17,r18,r19,r20,r21,r22,r23,r24,r25,r26,r27,r28],X,F]]=some (.int .u64 (qfl key:Int),[]):=by
 have li:=qPO key hk
 rw [qfl]
 rw [qaa Tryz.func90 rfl rfl Tryz.results90 qMk.1 rfl rfl (by kernel_rfl)]
 simp -implicitDefEqProofs -dsimp +contextual (maxSteps:=9999999) (disch:=first | omega | simp only [go_sem]<;>omega | refine ib ?_;kernel_rfl) only [go_sem,seval,↓reduceIte,li]
def qiJ (H:qac):Prop:=∀o,80000≤o→(o<60000000∨61000000≤o)→H o=⟨0,.dead,0,[],false⟩
def qu1 (H:qac) (lo:Nat):Prop:=∀o,(lo≤o∧o<lo+20000)∨(lo * 1000≤o∧o<(lo+20000) * 1000)→H o=⟨0,.dead,0,[],false⟩
structure WorkC (H:qac) (n:Nd) (id:Int) (J:AVal):Prop where
 w:H 60111=⟨1,.live,25,[[.str n.me.name,.int .u64 (n.me.id:Int),.int .i64 n.me.fr,.int .i64 n.me.un,.int .i64 n.me.ix,.str n.me.tag,.int .i64 n.clock,.str n.psk,.int .i64 n.gateI,.str n.gateK,.bool n.ready,.slice 8 (n.pred.map Pr.cs),.slice 8 (n.list.map Pr.cs),.slice 9 (n.fingers.map Fg.cs),.osl 60109015 1 0 n.sessions.length,.osl 60109016 1 0 n.pends.length,.slice 4 (n.items.map It.cs),.osl 60109018 1 0 n.jobs.length,.int .i64 n.rid,.int .i64 n.jobId,.slice 1 (n.draws.map qat),.osl 60109022 1 0 n.results.length,J,.sc (.slice none 0 0),.fn (.func 149) [] [.ptr 60106 1 0 0,.ptr 60103 1 0 0]]],false⟩
 v:H 60106=⟨1,.live,1,[[.ptr 60111 1 0 0]],false⟩
 d:H 60103=⟨1,.live,1,[[.int .i64 id]],false⟩
 s:H 60109015=⟨1,.live,20,n.sessions.map Se.cs,false⟩
 p:H 60109016=⟨1,.live,23,n.pends.map Pd.cs,false⟩
 j:H 60109018=⟨1,.live,29,n.jobs.map Jb.cs,false⟩
 r:H 60109022=⟨1,.live,8,n.results.map Rs.cs,false⟩
def qzz (q:Nd×List Ac) (H:qac):Prop:=∃(a b c d ga gb gc gd:Nat) (J X F:AVal),1000000≤a∧1000000≤b∧1000000≤c∧1000000≤d∧
 H 60111=⟨1,.live,25,[[.str q.1.me.name,.int .u64 (q.1.me.id:Int),.int .i64 q.1.me.fr,.int .i64 q.1.me.un,.int .i64 q.1.me.ix,.str q.1.me.tag,.int .i64 q.1.clock,.str q.1.psk,.int .i64 q.1.gateI,.str q.1.gateK,.bool q.1.ready,.slice 8 (q.1.pred.map Pr.cs),.slice 8 (q.1.list.map Pr.cs),.slice 9 (q.1.fingers.map Fg.cs),.osl a ga 0 q.1.sessions.length,.osl b gb 0 q.1.pends.length,.slice 4 (q.1.items.map It.cs),.osl c gc 0 q.1.jobs.length,.int .i64 q.1.rid,.int .i64 q.1.jobId,.slice 1 (q.1.draws.map qat),.osl d gd 0 q.1.results.length,J,X,F]],false⟩∧
 H a=⟨ga,.live,20,q.1.sessions.map Se.cs,false⟩∧H b=⟨gb,.live,23,q.1.pends.map Pd.cs,false⟩∧H c=⟨gc,.live,29,q.1.jobs.map Jb.cs,false⟩∧H d=⟨gd,.live,8,q.1.results.map Rs.cs,false⟩∧
 ((X= .sc (.slice none 0 0)∧q.2=[])∨(∃x gx:Nat,X= .osl x gx 0 q.2.length∧80000≤x∧¬x=120102∧H x=⟨gx,.live,20,q.2.map Ac.cs,false⟩))
theorem WorkC.far {H H':qac} {n:Nd} {id:Int} {J:AVal} (h:WorkC H n id J) (hf:∀o,(60000≤o∧o<80000)∨(60000000≤o∧o<61000000)→H' o=H o):WorkC H' n id J:=
 ⟨(hf _ (by omega)).trans h.w,(hf _ (by omega)).trans h.v,(hf _ (by omega)).trans h.d,(hf _ (by omega)).trans h.s,(hf _ (by omega)).trans h.p,(hf _ (by omega)).trans h.j,(hf _ (by omega)).trans h.r⟩
theorem qiJ.fre {H:qac} (h:qiJ H) (lo:Nat) (hl:80000≤lo) (hl2:lo≤1000000):qu1 H lo:=fun o ho=>h o (by omega) (by omega)
theorem WorkC.fin {H:qac} {n:Nd} {id:Int} {J:AVal} (h:WorkC H n id J):qzz (n,[]) H:=
 ⟨_,_,_,_,_,_,_,_,_,_,_,by omega,by omega,by omega,by omega,h.w,h.s,h.p,h.j,h.r,.inl ⟨rfl,rfl⟩⟩
theorem qtU (n:Nd) (id:Int) (h:n.mid 1000000) (H:qac) (hH:∀o,60000≤o→H o=⟨0,.dead,0,[],false⟩) (K:AVal×qac→Option Res) (R:Option Res)
  (k1:∀i H',i<n.jobs.length→qgv n.jobs id=(i:Int)→WorkC H' n id (.ptr 60109018 1 i 0)→qiJ H'→(∀o,o<60000→H' o=H o)→K (.tup [.ptr 60111 1 0 0,.bool true],H')=R)
  (k0:∀H',qgv n.jobs id= -1→WorkC H' n id (.sc (.pointer none))→qiJ H'→(∀o,o<60000→H' o=H o)→K (.tup [.ptr 60111 1 0 0,.bool false],H')=R):@kB _ _ (il C4 69 [(aNd n),.int .i64 id] H) ⟨K⟩=R:=by
 have jl:=h.jl
 have g1:=hH 60102 (by omega);have g2:=hH 60103 (by omega);have g3:=hH 60106 (by omega);have g4:=hH 60111 (by omega);have g5:=hH 60109015 (by omega);have g6:=hH 60109016 (by omega);have g7:=hH 60109018 (by omega);have g8:=hH 60109022 (by omega)
 have cp:=e13 n h
 rcases qbH n.jobs id with ⟨i,hi,hid,hm,hf,hc⟩|⟨hc,hf | ⟨i,hi,hf,hm⟩⟩
 ·have row:=qa8 n.jobs i hi
  have mi:=e63 n.jobs[i]
  rw [hm]at mi
  rw [qag (C:=C4) Tryz.func69 rfl Tryz.results69 (show (C4).M.loc 69=_ from qIL.1) (by kernel_rfl)]
  simp -implicitDefEqProofs -dsimp +contextual (maxSteps:=9999999) (disch:=first | omega | simp only [go_sem]<;>omega | refine ib ?_;kernel_rfl) only [go_sem,seval,↓reduceIte,g1,g2,g3,g4,g5,g6,g7,g8,cp,hf,row,mi,Nat.not_lt_zero]
  exact k1 i _ hi hc ⟨rfl,rfl,rfl,rfl,rfl,rfl,rfl⟩ (fun o h1 h2=>by repeat (first | exact hH o (by omega)|rw [qac.set_ne _ _ (by omega)])) (fun o ho=>by repeat (first | rfl | rw [qac.set_ne _ _ (by omega)]))
 ·rw [qag (C:=C4) Tryz.func69 rfl Tryz.results69 (show (C4).M.loc 69=_ from qIL.1) (by kernel_rfl)]
  simp -implicitDefEqProofs -dsimp +contextual (maxSteps:=9999999) (disch:=first | omega | simp only [go_sem]<;>omega | refine ib ?_;kernel_rfl) only [go_sem,seval,↓reduceIte,g1,g2,g3,g4,g5,g6,g7,g8,cp,hf]
  exact k0 _ hc ⟨rfl,rfl,rfl,rfl,rfl,rfl,rfl⟩ (fun o h1 h2=>by repeat (first | exact hH o (by omega)|rw [qac.set_ne _ _ (by omega)])) (fun o ho=>by repeat (first | rfl | rw [qac.set_ne _ _ (by omega)]))
 ·have row:=qa8 n.jobs i hi
  have mi:=e63 n.jobs[i]
  rw [hm]at mi
  rw [qag (C:=C4) Tryz.func69 rfl Tryz.results69 (show (C4).M.loc 69=_ from qIL.1) (by kernel_rfl)]
  simp -implicitDefEqProofs -dsimp +contextual (maxSteps:=9999999) (disch:=first | omega | simp only [go_sem]<;>omega | refine ib ?_;kernel_rfl) only [go_sem,seval,↓reduceIte,g1,g2,g3,g4,g5,g6,g7,g8,cp,hf,row,mi,Nat.not_lt_zero]
  exact k0 _ hc ⟨rfl,rfl,rfl,rfl,rfl,rfl,rfl⟩ (fun o h1 h2=>by repeat (first | exact hH o (by omega)|rw [qac.set_ne _ _ (by omega)])) (fun o ho=>by repeat (first | rfl | rw [qac.set_ne _ _ (by omega)]))
theorem qfS (n:Nd) (id:Int) (i:Nat) (hi:i<n.jobs.length) (hid:n.jobs[i].id=id) (h:n.mid 1000000) (x:It) (has:Bool) (e:Int) (H:qac) (hW:WorkC H n id (.ptr 60109018 1 i 0)) (hF:qu1 H 140000) (K:AVal×qac→Option Res) (R:Option Res)
  (k:∀H',qzz (qax n id x has e,[]) H'→(∀o,o<60000→H' o=H o)→K (.tup [],H')=R):@kB _ _ (il C4 105 [.ptr 60111 1 0 0,.agg [.str x.k,.str x.v,.int .i64 x.n,.bool x.g],.bool has,.int .i64 e] H) ⟨K⟩=R:=by
 obtain ⟨W1,W2,W3,W4,W5,W6,W7⟩:=hW
 have row:=qa8 n.jobs i hi
 have se:=e86 n id x has e h
 obtain ⟨js,rs,hs⟩:=qcG n id x has e
 rw [hs]at se k
 rw [Nd.ocs_eq]at se
 have g1:=hF 140105 (by omega)
 have g2:=hF 140123015 (by omega);have g3:=hF 140123016 (by omega);have g4:=hF 140123018 (by omega);have g5:=hF 140123022 (by omega)
 rw [qag (C:=C4) Tryz.func105 rfl Tryz.results105 (show (C4).M.loc 105=_ from qFf.1) (by kernel_rfl)]
 simp -implicitDefEqProofs -dsimp +contextual (maxSteps:=9999999) (disch:=first | omega | simp only [go_sem]<;>omega | refine ib ?_;kernel_rfl) only [go_sem,seval,↓reduceIte,W1,W2,W3,W4,W5,W6,W7,row,hid,se,g1,g2,g3,g4,g5]
 exact k _ ⟨140123015,140123016,140123018,140123022,1,1,1,1,_,_,_,by omega,by omega,by omega,by omega,rfl,rfl,rfl,rfl,rfl,.inl ⟨rfl,rfl⟩⟩ (fun o ho=>by repeat (first | rfl | rw [qac.set_ne _ _ (by omega)]))
end Go.Proofs.YtnpkhdjgedeppaaGreatDoor
namespace Go.Proofs.YtnpkhdjgedeppaaGreatDoor
set_option maxHeartbeats 64000000
open Go.Am
set_option linter.unusedSimpArgs false
set_option linter.unusedVariables false
set_option maxRecDepth 100000
attribute [local irreducible] qaC idB qdL
theorem qMx (x y:En):(x.name=y.name∧x.id=y.id∧x.fr=y.fr∧x.un=y.un∧x.ix=y.ix∧x.tag=y.tag)=(x=y):=propext (En.eq_iff x y).symm
structure CliK (n:Nd):Prop where
 md:n.mid 80000
 me:n.me.id≤18446744073709551615
 li:∀p∈n.list,p.e.id≤18446744073709551615
 clock:0≤n.clock∧n.clock≤1099511627776
 jk:∀j∈n.jobs,j.key.length≤10000∧j.val.length≤10000
 ji:∀j∈n.jobs,-9223372036854775808≤j.tries∧ -9223372036854775808≤j.hops
theorem qfm {n:Nd} {k:Nat} (i:Nat) (j j':Jb) (h:n.mid k) (hj:j∈n.jobs) (ha:j'.asked=j.asked):({ n with jobs:=n.jobs.set i j' }:Nd).mid k:=
 qhy i j' h (by rw [ha];exact h.ja j hj)
theorem qlr (l:List Jb) (i:Nat) (J:Jb) (h:i<l.length):((l.set i J).map Jb.cs)[i]?=some [.int .i64 J.id,.int .i64 J.kind,.int .i64 J.phase,.int .i64 J.hops,.int .i64 J.tries,.int .i64 J.til,.str J.key,.str J.val,.str J.owner.name,.int .u64 (J.owner.id:Int),.int .i64 J.owner.fr,.int .i64 J.owner.un,.int .i64 J.owner.ix,.str J.owner.tag,.str J.item.k,.str J.item.v,.int .i64 J.item.n,.bool J.item.g,.int .i64 J.acks,.int .i64 J.waits,.slice 1 (J.asked.map qaD),.str J.back.name,.int .u64 (J.back.id:Int),.int .i64 J.back.fr,.int .i64 J.back.un,.int .i64 J.back.ix,.str J.back.tag,.int .i64 J.backRid,.int .i64 J.backJob]:=by
 rw [List.getElem?_map,List.getElem?_set_self h];rfl
theorem set_cs (l:List Jb) (i:Nat) (j:Jb):(l.map Jb.cs).set i [.int .i64 j.id,.int .i64 j.kind,.int .i64 j.phase,.int .i64 j.hops,.int .i64 j.tries,.int .i64 j.til,.str j.key,.str j.val,.str j.owner.name,.int .u64 (j.owner.id:Int),.int .i64 j.owner.fr,.int .i64 j.owner.un,.int .i64 j.owner.ix,.str j.owner.tag,.str j.item.k,.str j.item.v,.int .i64 j.item.n,.bool j.item.g,.int .i64 j.acks,.int .i64 j.waits,.slice 1 (j.asked.map qaD),.str j.back.name,.int .u64 (j.back.id:Int),.int .i64 j.back.fr,.int .i64 j.back.un,.int .i64 j.back.ix,.str j.back.tag,.int .i64 j.backRid,.int .i64 j.backJob]=(l.set i j).map Jb.cs:=by rw [List.map_set];rfl
theorem qjA (n:Nd) (id:Int) (i:Nat) (hi:i<n.jobs.length) (hid:n.jobs[i].id=id) (h:n.mid 1000000) (e:Int) (H:qac) (hW:WorkC H n id (.ptr 60109018 1 i 0)) (hF:qu1 H 140000) (K:AVal×qac→Option Res) (R:Option Res)
  (k:∀H',qzz (qdc n id e) H'→(∀o,o<60000→H' o=H o)→K (.tup [],H')=R):@kB _ _ (il C4 91 [.ptr 60111 1 0 0,.int .i64 e] H) ⟨K⟩=R:=by
 rw [qag (C:=C4) Tryz.func91 rfl Tryz.results91 (show (C4).M.loc 91=_ from qMl.1) (by kernel_rfl)]
 simp -implicitDefEqProofs -dsimp +contextual (maxSteps:=9999999) (disch:=first | omega | simp only [go_sem]<;>omega | refine ib ?_;kernel_rfl) only [go_sem,seval,↓reduceIte]
 refine qfS n id i hi hid h qaW false e _ hW hF _ _ fun H' hE hfr=>?_
 simp -implicitDefEqProofs -dsimp +contextual (maxSteps:=9999999) (disch:=first | omega | simp only [go_sem]<;>omega | refine ib ?_;kernel_rfl) only [go_sem,seval,↓reduceIte]
 exact k _ hE hfr
theorem qtV (n:Nd) (id:Int) (i:Nat) (hi:i<n.jobs.length) (hid:n.jobs[i].id=id) (h:n.mid 1000000) (hk:n.jobs[i].key.length≤10000) (to:En) (H:qac) (hW:WorkC H n id (.ptr 60109018 1 i 0)) (hF:qu1 H 200000) (hG:qu1 H 80000) (K:AVal×qac→Option Res) (R:Option Res)
  (k:∀H',qzz (qri n i n.jobs[i] to id) H'→(∀o,o<60000→H' o=H o)→K (.tup [],H')=R):@kB _ _ (il C4 94 [.ptr 60111 1 0 0,.agg [.str to.name,.int .u64 (to.id:Int),.int .i64 to.fr,.int .i64 to.un,.int .i64 to.ix,.str to.tag]] H) ⟨K⟩=R:=by
 obtain ⟨W1,W2,W3,W4,W5,W6,W7⟩:=hW
 have jl:=h.jl
 have row:=qa8 n.jobs i hi
 have hrow:=fun J=>qlr n.jobs i J hi
 have g1:=hF 200103 (by omega)
 have g2:=hG 80105 (by omega);have g3:=hG 80106 (by omega);have g4:=hG 80118 (by omega);have g5:=hG 80119 (by omega)
 generalize hj:n.jobs[i]=j at *
 rw [qag (C:=C4) Tryz.func94 rfl Tryz.results94 (show (C4).M.loc 94=_ from qMm.1) (by kernel_rfl)]
 simp -implicitDefEqProofs -dsimp +contextual (maxSteps:=9999999) (disch:=first | omega | simp only [go_sem]<;>omega | refine ib ?_;kernel_rfl) only [go_sem,seval,↓reduceIte,W1,W2,W3,W4,W5,W6,W7,row,hi,g1,qbS,hrow,List.set_set,qiI]
 rw [qag (C:=C4) Tryz.func149 rfl Tryz.results149 (show (C4).M.loc 149=_ from qxX.1) (by kernel_rfl)]
 simp -implicitDefEqProofs -dsimp +contextual (maxSteps:=9999999) (disch:=first | omega | simp only [go_sem]<;>omega | refine ib ?_;kernel_rfl) only [go_sem,seval,↓reduceIte,W1,W2,W3,W4,W5,W6,W7,g2,g3,g4,g5]
 have jn:(qri n i j to id).1.jobs.length=n.jobs.length:=by simp [qri]
 refine k _ ⟨60109015,60109016,60109018,60109022,1,1,1,1,.ptr 60109018 1 i 0,.osl 80119 1 0 1,.fn (.func 149) [] [.ptr 60106 1 0 0,.ptr 60103 1 0 0],by omega,by omega,by omega,by omega,?_,W4,W5,rfl,W7,.inr ⟨80119,1,rfl,by omega,by omega,rfl⟩⟩ (fun o ho=>by repeat (first | rfl | rw [qac.set_ne _ _ (by omega)]))
 simp only [jn]
 rfl
theorem qjB (id:Int):∀(l:List Pr) (j:Jb),(qcU id l j).2.length≤l.length
 | [],_=>Nat.le_refl _
 | p::l,j=>by
  unfold qcU
  split
  ·exact Nat.zero_le _
  ·split
   ·exact Nat.le_succ_of_le (qjB id l j)
   ·exact Nat.succ_le_succ (qjB id l _)
theorem qov (n:Nd) (back:En) (rid job:Int) (x:It) (has:Bool) (e:Int):(qbY n back rid job x has e).2.length≤1:=by
 unfold qbY;split<;>simp
theorem qtW (n:Nd) (key val:List UInt8) (gone:Bool) (back:En) (rid job:Int):(qdR n key val gone back rid job).2.length≤n.list.length+1:=by
 unfold qdR
 split
 ·rcases qdm (qas n key val gone back rid job).jobs (qbv n.jobId)with ⟨i,hi,hc⟩|hc
  ·rw [qgL hi hc]
   have h1:=qjB (qbv n.jobId) (qas n key val gone back rid job).list (qas n key val gone back rid job).jobs[i]
   have h2:(qas n key val gone back rid job).list=n.list:=rfl
   rw [h2]at h1 ⊢
   unfold qaz
   split
   ·exact Nat.le_succ_of_le h1
   ·rw [List.length_append]
    exact Nat.add_le_add h1 (qov _ _ _ _ _ _ _)
  ·rw [qfQ hc];exact Nat.zero_le _
 ·exact Nat.le_trans (qov _ _ _ _ _ _ _) (by omega)
theorem WorkC.set {H H':qac} {n:Nd} {id:Int} {J:AVal} (h:WorkC H n id J) (i:Nat) (j':Jb) (hj:H' 60109018=⟨1,.live,29,(n.jobs.set i j').map Jb.cs,false⟩) (hf:∀o,o≠60109018→H' o=H o):WorkC H' { n with jobs:=n.jobs.set i j' } id J:=
 ⟨by rw [hf _ (by omega),h.w];simp only [List.length_set],(hf _ (by omega)).trans h.v,(hf _ (by omega)).trans h.d,(hf _ (by omega)).trans h.s,(hf _ (by omega)).trans h.p,hj,(hf _ (by omega)).trans h.r⟩
theorem qyd {n:Nd} (h:CliK n) (i:Nat) (j j':Jb) (hj:j∈n.jobs) (ha:j'.asked=j.asked) (hk:j'.key=j.key) (hv:j'.val=j.val) (hi : -9223372036854775808≤j'.tries∧ -9223372036854775808≤j'.hops):CliK { n with jobs:=n.jobs.set i j' }:=
 ⟨qfm i j j' h.md hj ha,h.me,h.li,h.clock,fun x hx=>by
  rcases List.mem_or_eq_of_mem_set hx with hx | rfl
  ·exact h.jk x hx
  ·rw [hk,hv];exact h.jk j hj,fun x hx=>by
  rcases List.mem_or_eq_of_mem_set hx with hx | rfl
  ·exact h.ji x hx
  ·exact hi⟩
theorem qye (n:Nd) (id:Int) (i:Nat) (hi:i<n.jobs.length) (hid:n.jobs[i].id=id) (h:CliK n) (H:qac) (hW:WorkC H n id (.ptr 60109018 1 i 0)) (hF:qiJ H) (K:AVal×qac→Option Res) (R:Option Res)
  (k:∀H',qzz (qjz n i id) H'→(∀o,o<60000→H' o=H o)→K (.tup [],H')=R):@kB _ _ (il C4 70 [.ptr 60111 1 0 0] H) ⟨K⟩=R:=by
 have hW':=hW
 obtain ⟨W1,W2,W3,W4,W5,W6,W7⟩:=hW'
 have jl:=h.md.jl
 have il:=h.md.il
 obtain ⟨k1,k2⟩:=h.jk _ (List.getElem_mem hi)
 have row:=qa8 n.jobs i hi
 have hrow:=fun J=>qlr n.jobs i J hi
 have ow:=qOy n.me n.list (qfl n.jobs[i].key) (qgl _) h.me (Nat.le_trans h.md.ll (by decide)) h.li
 have e3:=qMx (qbD n.me n.list (qfl n.jobs[i].key)) n.me
 have ge:=qPm n.items n.jobs[i].key (by omega)
 have g1:=hF 100102 (by omega) (by omega);have g2:=hF 100103 (by omega) (by omega);have g3:=hF 100105 (by omega) (by omega);have g4:=hF 100106 (by omega) (by omega)
 have be:=(qyc 109 (by decide) [] _).trans (qHl { n with jobs:=n.jobs.set i { n.jobs[i]with phase:=2 } } n.jobs[i].key n.jobs[i].val (decide (n.jobs[i].kind=2)) enZ 0 id ((qfm i n.jobs[i] { n.jobs[i]with phase:=2 } h.md (List.getElem_mem hi) rfl).le (show 80000≤90000 by omega)) (Nat.le_trans k1 (by decide)) h.clock)
 try simp only at be
 unfold qjz at k
 rw [qa7 hi]at k
 by_cases ho:qbD n.me n.list (qfl n.jobs[i].key)=n.me
 ·rw [if_pos ho]at k
  have ho':=eq_true ho
  by_cases k3:n.jobs[i].kind=3
  ·rw [if_pos k3]at k
   have hs:=qfS n id i hi hid (h.md.le (by omega)) (qdI n.items n.jobs[i].key).1 ((qdI n.items n.jobs[i].key).2&&!(qdI n.items n.jobs[i].key).1.g) 0
   generalize hj:n.jobs[i]=j at *
   generalize qdI n.items j.key=q at *
   obtain ⟨x,b⟩:=q
   cases b
   all_goals
    simp only [Bool.true_and,Bool.false_and]at hs k
    rw [qag (C:=C4) Tryz.func70 rfl Tryz.results70 (show (C4).M.loc 70=_ from qIM.1) (by kernel_rfl)]
    simp -implicitDefEqProofs -dsimp +contextual (maxSteps:=9999999) (disch:=first | omega | simp only [go_sem]<;>omega | refine ib ?_;kernel_rfl) only [go_sem,seval,↓reduceIte,W1,W2,W3,W4,W5,W6,W7,hi,row,qiI,ow,e3,ho',k3,ge,g1,g2]
    refine hs _ (hW.far ?_) ?_ _ _ fun H' hE hfr=>?_
    ·intro o ho;repeat (first | rfl | rw [qac.set_ne _ _ (by omega)])
    ·intro o ho;repeat (first | exact hF o (by omega) (by omega)|rw [qac.set_ne _ _ (by omega)])
    simp -implicitDefEqProofs -dsimp +contextual (maxSteps:=9999999) (disch:=first | omega | simp only [go_sem]<;>omega | refine ib ?_;kernel_rfl) only [go_sem,seval,↓reduceIte]
    exact k _ hE (fun o ho=>(hfr o ho).trans (by repeat (first | rfl | rw [qac.set_ne _ _ (by omega)])))
  ·rw [if_neg k3]at k
   have bl:=qtW { n with jobs:=n.jobs.set i { n.jobs[i]with phase:=2 } } n.jobs[i].key n.jobs[i].val (decide (n.jobs[i].kind=2)) enZ 0 id
   have ll:=h.md.ll
   subst hid
   have k3':=eq_false k3
   generalize qdR _ _ _ _ _ _ _=q at *
   obtain ⟨d,acts⟩:=q
   try simp only at bl
   simp only [enZ,Int.cast_ofNat_Int]at be
   unfold qeq at be
   rw [Nd.ocs_eq]at be
   generalize hj:n.jobs[i]=j at *
   rw [qag (C:=C4) Tryz.func70 rfl Tryz.results70 (show (C4).M.loc 70=_ from qIM.1) (by kernel_rfl)]
   simp -implicitDefEqProofs -dsimp +contextual (maxSteps:=9999999) (disch:=first | omega | simp only [go_sem]<;>omega | refine ib ?_;kernel_rfl) only [go_sem,seval,↓reduceIte,W1,W2,W3,W4,W5,W6,W7,row,hi,qiI,ow,e3,ho',k3',g1,g2,g3,g4,qbS,hrow,List.set_set,be]
   exact k _ ⟨100148001015,100148001016,100148001018,100148001022,_,_,_,_,_,_,_,by omega,by omega,by omega,by omega,rfl,rfl,rfl,rfl,rfl,.inr ⟨100159,_,rfl,by omega,by omega,rfl⟩⟩ (fun o ho=>by repeat (first | rfl | rw [qac.set_ne _ _ (by omega)]))
 ·rw [if_neg ho]at k
  have ho':=eq_false ho
  have ha:=qtV n id i hi hid (h.md.le (by omega)) k1 (qbD n.me n.list (qfl n.jobs[i].key))
  generalize hj:n.jobs[i]=j at *
  generalize qbD n.me n.list (qfl j.key)=o at *
  rw [qag (C:=C4) Tryz.func70 rfl Tryz.results70 (show (C4).M.loc 70=_ from qIM.1) (by kernel_rfl)]
  simp -implicitDefEqProofs -dsimp +contextual (maxSteps:=9999999) (disch:=first | omega | simp only [go_sem]<;>omega | refine ib ?_;kernel_rfl) only [go_sem,seval,↓reduceIte,W1,W2,W3,W4,W5,W6,W7,row,hi,qiI,ow,e3,ho',g1]
  refine ha _ (hW.far ?_) ?_ ?_ _ _ fun H' hE hfr=>?_
  ·intro o ho;repeat (first | rfl | rw [qac.set_ne _ _ (by omega)])
  ·intro o ho;repeat (first | exact hF o (by omega) (by omega)|rw [qac.set_ne _ _ (by omega)])
  ·intro o ho;repeat (first | exact hF o (by omega) (by omega)|rw [qac.set_ne _ _ (by omega)])
  simp -implicitDefEqProofs -dsimp +contextual (maxSteps:=9999999) (disch:=first | omega | simp only [go_sem]<;>omega | refine ib ?_;kernel_rfl) only [go_sem,seval,↓reduceIte]
  exact k _ hE (fun o ho=>(hfr o ho).trans (by repeat (first | rfl | rw [qac.set_ne _ _ (by omega)])))
theorem qls (n:Nd) (id why:Int) (i:Nat) (hi:i<n.jobs.length) (hid:n.jobs[i].id=id) (h:CliK n) (H:qac) (hW:WorkC H n id (.ptr 60109018 1 i 0)) (hF:qiJ H) (K:AVal×qac→Option Res) (R:Option Res)
  (k:∀H',qzz (qc0 n i id why) H'→(∀o,o<60000→H' o=H o)→K (.tup [],H')=R):@kB _ _ (il C4 103 [.ptr 60111 1 0 0,.int .i64 why] H) ⟨K⟩=R:=by
 have hW':=hW
 obtain ⟨W1,W2,W3,W4,W5,W6,W7⟩:=hW'
 have jl:=h.md.jl
 have row:=qa8 n.jobs i hi
 have hrow:=fun J=>qlr n.jobs i J hi
 have hf:=qjA n id i hi hid (h.md.le (by omega)) why
 have hs:=fun H=>qye { n with jobs:=n.jobs.set i { n.jobs[i]with tries:=n.jobs[i].tries+1 } } id i (by simpa using hi) (by simpa using hid) (qyd h i n.jobs[i] _ (List.getElem_mem hi) rfl rfl rfl ⟨by show _≤n.jobs[i].tries+1;have:=(h.ji _ (List.getElem_mem hi)).1;omega,(h.ji _ (List.getElem_mem hi)).2⟩) H
 have hji:=h.ji _ (List.getElem_mem hi)
 unfold qc0 at k
 rw [qa7 hi]at k
 by_cases ht:3≤n.jobs[i].tries
 ·rw [if_pos ht]at k
  have ht':=eq_true ht
  generalize hj:n.jobs[i]=j at *
  rw [qag (C:=C4) Tryz.func103 rfl Tryz.results103 (show (C4).M.loc 103=_ from qCs.1) (by kernel_rfl)]
  simp -implicitDefEqProofs -dsimp +contextual (maxSteps:=9999999) (disch:=first | omega | simp only [go_sem]<;>omega | refine ib ?_;kernel_rfl) only [go_sem,seval,↓reduceIte,W1,W2,W3,W4,W5,W6,W7,row,hi,ht']
  refine hf _ hW (hF.fre _ (by omega) (by omega)) _ _ fun H' hE hfr=>?_
  simp -implicitDefEqProofs -dsimp +contextual (maxSteps:=9999999) (disch:=first | omega | simp only [go_sem]<;>omega | refine ib ?_;kernel_rfl) only [go_sem,seval,↓reduceIte]
  exact k _ hE hfr
 ·rw [if_neg ht]at k
  have ht':=eq_false ht
  generalize hj:n.jobs[i]=j at *
  rw [qag (C:=C4) Tryz.func103 rfl Tryz.results103 (show (C4).M.loc 103=_ from qCs.1) (by kernel_rfl)]
  simp -implicitDefEqProofs -dsimp +contextual (maxSteps:=9999999) (disch:=first | omega | simp only [go_sem]<;>omega | refine ib ?_;kernel_rfl) only [go_sem,seval,↓reduceIte,W1,W2,W3,W4,W5,W6,W7,row,hi,ht',qbS,hrow]
  refine hs _ (hW.set i _ ?_ ?_) ?_ _ _ fun H' hE hfr=>?_
  ·rfl
  ·intro o ho;exact qac.set_ne _ _ ho
  ·intro o h1 h2;rw [qac.set_ne _ _ (by omega)];exact hF o h1 h2
  simp -implicitDefEqProofs -dsimp +contextual (maxSteps:=9999999) (disch:=first | omega | simp only [go_sem]<;>omega | refine ib ?_;kernel_rfl) only [go_sem,seval,↓reduceIte]
  exact k _ hE (fun o ho=>(hfr o ho).trans (qac.set_ne _ _ (by omega)))
theorem qtX {l:List Jb} {id:Int} {i:Nat} (hi:i<l.length) (hc:qgv l id=(i:Int)):l[i].id=id:=by
 rcases qbH l id with ⟨i',hi',hid,_,_,hc'⟩|⟨hc',_⟩
 ·obtain rfl:i'=i:=by omega
  exact hid
 ·omega
theorem qgg {n:Nd} {id:Int} (h:qgv n.jobs id= -1):qb2 n id=(n,[]):=by
 rw [qb2,h,if_neg (by omega)]
theorem qCP (n:Nd) (id:Int) (h:CliK n):fn C4 27 [] [(aNd n),.int .i64 id]=some (.tup [.agg (qb2 n id).1.cs,.slice 20 ((qb2 n id).2.map Ac.cs)],[]):=by
 rw [qaa (C:=C4) Tryz.func27 rfl rfl Tryz.results27 (show (C4).M.loc 27=_ from qLM.1) rfl rfl (by kernel_rfl)]
 simp -implicitDefEqProofs -dsimp +contextual (maxSteps:=9999999) (disch:=first | omega | simp only [go_sem]<;>omega | refine ib ?_;kernel_rfl) only [go_sem,seval,↓reduceIte]
 refine qtU n id (h.md.le (by omega)) _ ?_ _ _ ?_ ?_
 ·intro o ho;repeat (first | rfl | rw [qac.set_ne _ _ (by omega)])
 ·intro i H' hi hc W F hfr
  rw [qfR hc]
  have hid:=qtX hi hc
  simp -implicitDefEqProofs -dsimp +contextual (maxSteps:=9999999) (disch:=first | omega | simp only [go_sem]<;>omega | refine ib ?_;kernel_rfl) only [go_sem,seval,↓reduceIte]
  refine qls n id 43 i hi hid h _ W F _ _ fun H2 hE hfr2=>?_
  obtain ⟨a,b,c,d,ga,gb,gc,gd,J,X,F',A1,A2,A3,A4,Y1,Y2,Y3,Y4,Y5,hX⟩:=hE
  have g4:(H2 104).gen=1:=by rw [hfr2 104 (by omega),hfr 104 (by omega)];rfl
  have m4:(H2 104).mode= .live:=by rw [hfr2 104 (by omega),hfr 104 (by omega)];rfl
  obtain ⟨r,hr,H4r⟩:∃r:List AVal,r.length=22∧(H2 104).rows=[r]:=by rw [hfr2 104 (by omega),hfr 104 (by omega)];exact ⟨_,rfl,rfl⟩
  generalize qc0 n i id 43=q at *
  obtain ⟨m,acts⟩:=q
  try simp only at Y1 Y2 Y3 Y4 Y5 hX
  have na:(a=120102)=False:=eq_false (by omega);have nb:(b=120102)=False:=eq_false (by omega);have nc:(c=120102)=False:=eq_false (by omega);have nd:(d=120102)=False:=eq_false (by omega)
  have na':(a=104)=False:=eq_false (by omega);have nb':(b=104)=False:=eq_false (by omega);have nc':(c=104)=False:=eq_false (by omega);have nd':(d=104)=False:=eq_false (by omega)
  rcases hX with ⟨rfl,rfl⟩|⟨x,gx,rfl,hx1,hx2,hX⟩
  ·simp -implicitDefEqProofs -dsimp +contextual (maxSteps:=9999999) (disch:=first | omega | simp only [go_sem]<;>omega | refine ib ?_;kernel_rfl) only [go_sem,seval,↓reduceIte]
   rw [qag (C:=C4) Tryz.func71 rfl Tryz.results71 (show (C4).M.loc 71=_ from qgu.1) (by kernel_rfl)]
   simp -implicitDefEqProofs -dsimp +contextual (maxSteps:=9999999) (disch:=first | omega | simp only [go_sem]<;>omega | refine ib ?_;kernel_rfl) only [go_sem,seval,↓reduceIte,Y1,Y2,Y3,Y4,Y5,g4,m4,hr,H4r,na,nb,nc,nd,na',nb',nc',nd']
  ·have nx:(x=120102)=False:=eq_false (by omega);have nx':(x=104)=False:=eq_false (by omega)
   simp -implicitDefEqProofs -dsimp +contextual (maxSteps:=9999999) (disch:=first | omega | simp only [go_sem]<;>omega | refine ib ?_;kernel_rfl) only [go_sem,seval,↓reduceIte]
   rw [qag (C:=C4) Tryz.func71 rfl Tryz.results71 (show (C4).M.loc 71=_ from qgu.1) (by kernel_rfl)]
   simp -implicitDefEqProofs -dsimp +contextual (maxSteps:=9999999) (disch:=first | omega | simp only [go_sem]<;>omega | refine ib ?_;kernel_rfl) only [go_sem,seval,↓reduceIte,Y1,Y2,Y3,Y4,Y5,g4,m4,hr,H4r,na,nb,nc,nd,na',nb',nc',nd',nx,nx',hX]
 ·intro H' hc W F hfr
  rw [qgg hc]
  obtain ⟨Y1,W2,W3,Y2,Y3,Y4,Y5⟩:=W
  have f1:=F 120102 (by omega) (by omega)
  have g4:(H' 104).gen=1:=by rw [hfr 104 (by omega)];rfl
  have m4:(H' 104).mode= .live:=by rw [hfr 104 (by omega)];rfl
  obtain ⟨r,hr,H4r⟩:∃r:List AVal,r.length=22∧(H' 104).rows=[r]:=by rw [hfr 104 (by omega)];exact ⟨_,rfl,rfl⟩
  simp -implicitDefEqProofs -dsimp +contextual (maxSteps:=9999999) (disch:=first | omega | simp only [go_sem]<;>omega | refine ib ?_;kernel_rfl) only [go_sem,seval,↓reduceIte]
  rw [qag (C:=C4) Tryz.func71 rfl Tryz.results71 (show (C4).M.loc 71=_ from qgu.1) (by kernel_rfl)]
  simp -implicitDefEqProofs -dsimp +contextual (maxSteps:=9999999) (disch:=first | omega | simp only [go_sem]<;>omega | refine ib ?_;kernel_rfl) only [go_sem,seval,↓reduceIte,Y1,Y2,Y3,Y4,Y5,g4,m4,hr,H4r]
end Go.Proofs.YtnpkhdjgedeppaaGreatDoor
namespace Go.Proofs.YtnpkhdjgedeppaaGreatDoor
set_option maxHeartbeats 64000000
open Go.Am
set_option linter.unusedSimpArgs false
set_option linter.unusedVariables false
set_option maxRecDepth 100000
def qDT (f:Nat→AVal) (H:qac) (t o st:Nat) (r:List (List AVal)):Prop:=∃g,f t= .osl o g 0 r.length∧H o=⟨g,.live,st,r,false⟩
theorem qdG {α β:Type} (f:α→β) (l:List α) (i:Nat) (h:i<l.length):(l.take (i+1)).map f=(l.take i).map f++[f l[i]]:=by
 rw [List.take_succ_eq_append_getElem h,List.map_append];rfl
def qHr (p:Pr):List AVal:=p.e.cs
theorem qyf (l:List Pr):l.map qHr=(l.map Pr.e).map En.cs:=by rw [List.map_map];rfl
@[go_sem] theorem qQg (l:List Pr) (hl:l.length≤1000000):fn C 121 [] [.slice 8 (l.map Pr.cs)]=some (.slice 6 ((l.map Pr.e).map En.cs),[]):=by
 rw [qao Tryz.func121 rfl rfl Tryz.results121 qFj.1 rfl rfl (by kernel_rfl)]
 simp -implicitDefEqProofs -dsimp +contextual (maxSteps:=9999999) (disch:=first | omega | simp only [go_sem]<;>omega | refine ib ?_;kernel_rfl) only [go_sem,seval,↓reduceIte]
 refine qdb l.length (fun i f H=>f 0= .slice 8 (l.map Pr.cs)∧f 4= .int .i64 (i:Nat)∧qDT f H 3 103 6 ((l.take i).map qHr)) ?_ ?_ (by exact ⟨rfl,rfl,⟨_,rfl,rfl⟩⟩)
 ·rintro i f H hi ⟨f0,f4,g,f3,hA⟩ ih
  have hm:=qdG qHr l i hi
  have row:=qdP l i hi
  have hn:((l.take i).map qHr).length≤1000000:=by simp;omega
  generalize (l.take i).map qHr=r at *
  simp -implicitDefEqProofs -dsimp +contextual (maxSteps:=9999999) (disch:=first | omega | simp only [go_sem]<;>omega | refine ib ?_;kernel_rfl) only [go_sem,seval,↓reduceIte,f0,f4,f3,hA,hi,row]
  exact ih _ _ ⟨f0,rfl,by rw [hm];exact ⟨_,by rw [List.length_append];rfl,rfl⟩⟩
 ·rintro f H ⟨f0,f4,g,f3,hA⟩
  rw [List.take_length,qyf]at f3 hA
  simp -implicitDefEqProofs -dsimp +contextual (maxSteps:=9999999) (disch:=first | omega | simp only [go_sem]<;>omega | refine ib ?_;kernel_rfl) only [go_sem,seval,↓reduceIte,f0,f4,f3,hA]
end Go.Proofs.YtnpkhdjgedeppaaGreatDoor
namespace Go.Proofs.YtnpkhdjgedeppaaGreatDoor
set_option maxHeartbeats 64000000
open Go.Am
set_option linter.unusedSimpArgs false
set_option linter.unusedVariables false
set_option maxRecDepth 100000
attribute [local irreducible] qaC
def qbb (l:List Pr) (name:List UInt8):List Pr:=l.filter fun p=>!decide (p.e.name=name)
def qhv (l:List Fg) (name:List UInt8):List Fg:=l.map fun x=>if x.p.e.name=name then { x with p:=qtS } else x
theorem qtY (l:List En) (i:Nat) (h:i<l.length):(l.map En.cs)[i]?=some [.str l[i].name,.int .u64 (l[i].id:Int),.int .i64 l[i].fr,.int .i64 l[i].un,.int .i64 l[i].ix,.str l[i].tag]:=by
 rw [List.getElem?_map,List.getElem?_eq_getElem h];rfl
@[go_sem] theorem qOC (me:En) (l:List Pr) (key:Nat) (hk:key≤18446744073709551615) (hm:me.id≤18446744073709551615) (hl:l.length≤1000000) (hp:∀p∈l,p.e.id≤18446744073709551615):fn C 113 [] [.agg [.str me.name,.int .u64 (me.id:Int),.int .i64 me.fr,.int .i64 me.un,.int .i64 me.ix,.str me.tag],.slice 8 (l.map Pr.cs),.int .u64 (key:Int)]=some (.agg [.str (qbD me l key).name,.int .u64 ((qbD me l key).id:Int),.int .i64 (qbD me l key).fr,.int .i64 (qbD me l key).un,.int .i64 (qbD me l key).ix,.str (qbD me l key).tag],[]):=by
 rw [qaa Tryz.func113 rfl rfl Tryz.results113 qFg.1 rfl rfl (by kernel_rfl)]
 rw [qlp]
 simp -implicitDefEqProofs -dsimp +contextual (maxSteps:=9999999) (disch:=first | omega | simp only [go_sem]<;>omega | refine ib ?_;kernel_rfl) only [go_sem,seval,↓reduceIte]
 obtain ⟨all,hall⟩:∃all:List En,all=me::l.map Pr.e:=⟨_,rfl⟩
 have hrows:[.str me.name,.int .u64 (me.id:Int),.int .i64 me.fr,.int .i64 me.un,.int .i64 me.ix,.str me.tag]::(l.map Pr.e).map En.cs=all.map En.cs:=by rw [hall];rfl
 have hn:all.length=l.length+1:=by simp [hall]
 have hid:∀e∈all,e.id≤18446744073709551615:=by
  intro e he
  rw [hall]at he
  rcases List.mem_cons.1 he with rfl | he
  ·exact hm
  ·obtain ⟨p,hp',rfl⟩:=List.mem_map.1 he
   exact hp p hp'
 have hat:∀(i:Nat) (h:i+1<all.length),all[i+1]=(l[i]'(by omega)).e:=by
  intro i h;subst hall;simp
 have h0:all[0]'(by omega)=me:=by subst hall;rfl
 rw [hrows]
 refine qdb all.length (fun i f H=>f 2= .int .u64 (key:Int)∧f 6= .ptr 106 1 0 0∧f 7= .osl 111 2 0 all.length∧f 9= .int .i64 (i:Nat)∧H 111=⟨2,.live,6,all.map En.cs,false⟩∧(H 106).gen=1∧(H 106).mode= .live∧(∃r:List AVal,r.length=6∧(H 106).rows=[r])∧∃(j:Nat) (hj:j<all.length),f 8= .int .i64 (j:Nat)∧all[j]=(l.take (i - 1)).foldl (qfk key) me) ?_ ?_ ?_
 ·rintro i f H hi ⟨f2,f6,f7,f9,hH,H6g,H6m,H6,j,hj,f8,hb⟩ ih
  have ri:=qtY all i hi
  have rj:=qtY all j hj
  have i1:=hid _ (List.getElem_mem hi)
  have i2:=hid _ (List.getElem_mem hj)
  have next:(if qaC key all[i].id<qaC key all[j].id then all[i] else all[j])=(l.take (i+1 - 1)).foldl (qfk key) me:=by
   cases i with
   | zero=>
    rw [h0,hb]
    simp
   | succ i=>
    have:=hat i hi
    rw [Nat.add_sub_cancel,qlq me l key i (by omega),hb,Nat.add_sub_cancel,this]
    rfl
  simp -implicitDefEqProofs -dsimp +contextual (maxSteps:=9999999) (disch:=first | omega | simp only [go_sem]<;>omega | refine ib ?_;kernel_rfl) only [go_sem,seval,↓reduceIte,f2,f6,f7,f8,f9,hH,hi,hj,ri,rj,i1,i2]
  (repeat' (refine qae (fun _=>?_) (fun _=>?_)))
  ·rename_i hd
   rw [if_pos hd]at next
   exact ih _ _ ⟨f2,f6,f7,rfl,hH,H6g,H6m,H6,i,hi,rfl,next⟩
  ·rename_i hd
   rw [if_neg hd]at next
   exact ih _ _ ⟨f2,f6,f7,rfl,hH,H6g,H6m,H6,j,hj,f8,next⟩
 ·rintro f H ⟨f2,f6,f7,f9,hH,H6g,H6m,⟨r,hr,H6⟩,j,hj,f8,hb⟩
  have rj:=qtY all j hj
  rw [hn,Nat.add_sub_cancel,List.take_length]at hb
  rw [hb]at rj
  simp -implicitDefEqProofs -dsimp +contextual (maxSteps:=9999999) (disch:=first | omega | simp only [go_sem]<;>omega | refine ib ?_;kernel_rfl) only [go_sem,seval,↓reduceIte,f2,f6,f7,f8,f9,hH,hj,rj,H6g,H6m,H6,hr]
 ·refine ⟨rfl,rfl,?_,rfl,rfl,rfl,rfl,⟨_,rfl,rfl⟩,0,by omega,rfl,?_⟩
  ·rw [hn];first | rfl | (rw [Nat.add_comm];rfl)
  ·simpa using h0
@[go_sem] theorem qQh (a b:List UInt8) (hl:a.length≤9223372036854775807) (hm:b.length≤9223372036854775807):fn C 238 [] [.str a,.str b]=some (.bool (Op.bytesLess a b),[]):=by
 rw [qaa Tryz.func238 rfl rfl Tryz.results238 qGA.1 rfl rfl (by kernel_rfl)]
 simp -implicitDefEqProofs -dsimp +contextual (maxSteps:=9999999) (disch:=first | omega | simp only [go_sem]<;>omega | refine ib ?_;kernel_rfl) only [go_sem,seval,↓reduceIte]
 refine (qai (fun i f H=>f 0= .str a∧f 1= .str b∧f 5= .int .i64 (i:Nat)∧H=qac.nil∧i≤a.length∧i≤b.length∧a.take i=b.take i) (fun i=>a.length - i) (fun i=>some (.bool (Op.bytesLess a b),[])) ?_ 0 _ _ ⟨rfl,rfl,rfl,rfl,by omega,by omega,rfl⟩).trans rfl
 rintro i f _ ⟨h0,h1,h5,rfl,hi,hj,ht⟩ ih
 by_cases h4:i<a.length
 ·by_cases h6:i<b.length
  ·simp -implicitDefEqProofs -dsimp +contextual (maxSteps:=9999999) (disch:=first | omega | simp only [go_sem]<;>omega | refine ib ?_;kernel_rfl) only [go_sem,seval,↓reduceIte,h0,h1,h5,h4,h6]
   (repeat' (refine qae (fun _=>?_) (fun _=>?_)))
   ·rename_i he
    refine ih (i+1) _ _ ⟨h0,h1,rfl,rfl,by omega,by omega,?_⟩ (by omega)
    rw [List.take_succ_eq_append_getElem h4,List.take_succ_eq_append_getElem h6,ht,UInt8.toNat_inj.1 he]
   ·rename_i he
    rw [qul a b i ht h4 h6 (fun e=>he (by rw [e]))]
  ·simp -implicitDefEqProofs -dsimp +contextual (maxSteps:=9999999) (disch:=first | omega | simp only [go_sem]<;>omega | refine ib ?_;kernel_rfl) only [go_sem,seval,↓reduceIte,h0,h1,h5,h4,h6]
   rw [qgO a b i hi hj ht (.inr (by omega))]
 ·simp -implicitDefEqProofs -dsimp +contextual (maxSteps:=9999999) (disch:=first | omega | simp only [go_sem]<;>omega | refine ib ?_;kernel_rfl) only [go_sem,seval,↓reduceIte,h0,h1,h5,h4]
  (repeat' (refine qae (fun _=>?_) (fun _=>?_)))<;>rw [qgO a b i hi hj ht (.inl (by omega))]
theorem qtZ (me:En) (a b:Pr):qdv me a b=(decide (qaC me.id a.e.id<qaC me.id b.e.id)|| (decide (qaC me.id a.e.id=qaC me.id b.e.id)&&Op.bytesLess a.e.name b.e.name)):=by
 unfold qdv
 split
 ·rename_i h;simp [h]
 ·rename_i h;simp [h]
@[go_sem] theorem qQi (me:En) (a b:Pr) (h1:me.id≤18446744073709551615) (h2:a.e.id≤18446744073709551615) (h3:b.e.id≤18446744073709551615) (h4:a.e.name.length≤9223372036854775807) (h5:b.e.name.length≤9223372036854775807):fn C 187 [] [.agg [.str me.name,.int .u64 (me.id:Int),.int .i64 me.fr,.int .i64 me.un,.int .i64 me.ix,.str me.tag],.agg [.str a.e.name,.int .u64 (a.e.id:Int),.int .i64 a.e.fr,.int .i64 a.e.un,.int .i64 a.e.ix,.str a.e.tag,.int .i64 a.since,.int .i64 a.under],.agg [.str b.e.name,.int .u64 (b.e.id:Int),.int .i64 b.e.fr,.int .i64 b.e.un,.int .i64 b.e.ix,.str b.e.tag,.int .i64 b.since,.int .i64 b.under]]=some (.bool (qdv me a b),[]):=by
 rw [qaa Tryz.func187 rfl rfl Tryz.results187 qFY.1 rfl rfl (by kernel_rfl)]
 rw [qtZ]
 simp -implicitDefEqProofs -dsimp +contextual (maxSteps:=9999999) (disch:=first | omega | simp only [go_sem]<;>omega | refine ib ?_;kernel_rfl) only [go_sem,seval,↓reduceIte]
 (repeat' (refine qae (fun _=>?_) (fun _=>?_)))
 all_goals exact qaw (by simp [*])
theorem qdn (l:List Pr) (name:List UInt8) (i:Nat) (h:i<l.length):qbb (l.take (i+1)) name=qbb (l.take i) name++(if l[i].e.name=name then [] else [l[i]]):=by
 unfold qbb
 rw [List.take_succ_eq_append_getElem h,List.filter_append]
 congr 1
 by_cases e:l[i].e.name=name<;>simp [e]
theorem qfn (l:List Pr) (name:List UInt8):(qbb l name).length≤l.length:=List.length_filter_le _ _
@[go_sem] theorem qKC (l:List Pr) (name:List UInt8) (hl:l.length≤1000000):fn C 126 [] [.slice 8 (l.map Pr.cs),.str name]=some (.slice 8 ((qbb l name).map Pr.cs),[]):=by
 rw [qao Tryz.func126 rfl rfl Tryz.results126 qFo.1 rfl rfl (by kernel_rfl)]
 simp -implicitDefEqProofs -dsimp +contextual (maxSteps:=9999999) (disch:=first | omega | simp only [go_sem]<;>omega | refine ib ?_;kernel_rfl) only [go_sem,seval,↓reduceIte]
 refine qdb l.length (fun i f H=>f 0= .slice 8 (l.map Pr.cs)∧f 1= .str name∧f 6= .int .i64 (i:Nat)∧qDT f H 5 105 8 ((qbb (l.take i) name).map Pr.cs)) ?_ ?_ (by exact ⟨rfl,rfl,rfl,⟨_,rfl,rfl⟩⟩)
 ·rintro i f H hi ⟨f0,f1,f6,g,f5,hA⟩ ih
  have hm:=qdn l name i hi
  have row:=qdP l i hi
  have hn:((qbb (l.take i) name).map Pr.cs).length≤1000000:=by
   have:=qfn (l.take i) name
   simp at this ⊢;omega
  by_cases e:l[i].e.name=name
  ·rw [if_pos e,List.append_nil]at hm
   rw [←hm]at f5 hA hn
   generalize (qbb (l.take (i+1)) name).map Pr.cs=r at *
   simp -implicitDefEqProofs -dsimp +contextual (maxSteps:=9999999) (disch:=first | omega | simp only [go_sem]<;>omega | refine ib ?_;kernel_rfl) only [go_sem,seval,↓reduceIte,f0,f1,f6,f5,hA,hi,row,e]
   exact ih _ _ ⟨f0,f1,rfl,⟨g,f5,hA⟩⟩
  ·rw [if_neg e]at hm
   have hm2:(qbb (l.take (i+1)) name).map Pr.cs=(qbb (l.take i) name).map Pr.cs++[l[i].cs]:=by rw [hm,List.map_append];rfl
   generalize (qbb (l.take i) name).map Pr.cs=r at *
   simp -implicitDefEqProofs -dsimp +contextual (maxSteps:=9999999) (disch:=first | omega | simp only [go_sem]<;>omega | refine ib ?_;kernel_rfl) only [go_sem,seval,↓reduceIte,f0,f1,f6,f5,hA,hi,row,e]
   exact ih _ _ ⟨f0,f1,rfl,by rw [hm2];exact ⟨_,by rw [List.length_append];rfl,rfl⟩⟩
 ·rintro f H ⟨f0,f1,f6,g,f5,hA⟩
  rw [List.take_length]at f5 hA
  simp -implicitDefEqProofs -dsimp +contextual (maxSteps:=9999999) (disch:=first | omega | simp only [go_sem]<;>omega | refine ib ?_;kernel_rfl) only [go_sem,seval,↓reduceIte,f0,f1,f6,f5,hA]
def qdo (name:List UInt8) (x:Fg):Fg:=if x.p.e.name=name then { x with p:=qtS } else x
theorem qHs (l:List Fg) (i:Nat) (h:i<l.length):(l.map Fg.cs)[i]?=some [.int .i64 l[i].bit,.str l[i].p.e.name,.int .u64 (l[i].p.e.id:Int),.int .i64 l[i].p.e.fr,.int .i64 l[i].p.e.un,.int .i64 l[i].p.e.ix,.str l[i].p.e.tag,.int .i64 l[i].p.since,.int .i64 l[i].p.under]:=by
 rw [List.getElem?_map,List.getElem?_eq_getElem h];rfl
@[go_sem] theorem qOD (l:List Fg) (name:List UInt8) (hl:l.length≤1000000):fn C 127 [] [.slice 9 (l.map Fg.cs),.str name]=some (.slice 9 ((qhv l name).map Fg.cs),[]):=by
 rw [qao Tryz.func127 rfl rfl Tryz.results127 qFp.1 rfl rfl (by kernel_rfl)]
 simp -implicitDefEqProofs -dsimp +contextual (maxSteps:=9999999) (disch:=first | omega | simp only [go_sem]<;>omega | refine ib ?_;kernel_rfl) only [go_sem,seval,↓reduceIte]
 refine qdb l.length (fun i f H=>f 0= .slice 9 (l.map Fg.cs)∧f 1= .str name∧f 6= .int .i64 (i:Nat)∧qDT f H 5 105 9 ((l.take i).map fun x=>(qdo name x).cs)) ?_ ?_ (by exact ⟨rfl,rfl,rfl,⟨_,rfl,rfl⟩⟩)
 ·rintro i f H hi ⟨f0,f1,f6,g,f5,hA⟩ ih
  have hm:=qdG (fun x=>(qdo name x).cs) l i hi
  have row:=qHs l i hi
  have hn:((l.take i).map fun x=>(qdo name x).cs).length≤1000000:=by simp;omega
  generalize (l.take i).map (fun x=>(qdo name x).cs)=r at *
  by_cases e:l[i].p.e.name=name
  ·simp -implicitDefEqProofs -dsimp +contextual (maxSteps:=9999999) (disch:=first | omega | simp only [go_sem]<;>omega | refine ib ?_;kernel_rfl) only [go_sem,seval,↓reduceIte,f0,f1,f6,f5,hA,hi,row,e]
   exact ih _ _ ⟨f0,f1,rfl,by rw [hm,qdo,if_pos e];exact ⟨_,by rw [List.length_append];rfl,rfl⟩⟩
  ·simp -implicitDefEqProofs -dsimp +contextual (maxSteps:=9999999) (disch:=first | omega | simp only [go_sem]<;>omega | refine ib ?_;kernel_rfl) only [go_sem,seval,↓reduceIte,f0,f1,f6,f5,hA,hi,row,e]
   exact ih _ _ ⟨f0,f1,rfl,by rw [hm,qdo,if_neg e];exact ⟨_,by rw [List.length_append];rfl,rfl⟩⟩
 ·rintro f H ⟨f0,f1,f6,g,f5,hA⟩
  have e:(l.take l.length).map (fun x=>(qdo name x).cs)=(qhv l name).map Fg.cs:=by rw [List.take_length,qhv,List.map_map];rfl
  rw [e]at f5 hA
  simp -implicitDefEqProofs -dsimp +contextual (maxSteps:=9999999) (disch:=first | omega | simp only [go_sem]<;>omega | refine ib ?_;kernel_rfl) only [go_sem,seval,↓reduceIte,f0,f1,f6,f5,hA]
end Go.Proofs.YtnpkhdjgedeppaaGreatDoor
