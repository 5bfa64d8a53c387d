import Derived.Test.YtnpkhdjgedeppaaGreatDoorTCop3
import Derived.Lib.Mul64
namespace Go.Proofs.YtnpkhdjgedeppaaGreatDoor
set_option maxHeartbeats 64000000
open Go.Am
set_option linter.unusedSimpArgs false
set_option linter.unusedVariables false
set_option maxRecDepth 100000
def qHz (H:qac) (A:AVal) (l:List (List UInt8)):Prop:=∃g,A= .osl 80167 g 0 l.length∧H 80167=⟨g,.live,1,l.map qaG,false⟩
theorem qwJ (g:Int) (n:Nd) (id:Int) (i c:Nat) (j0:Jb) (hi:i<n.jobs.length) (hj0:n.jobs[i]=j0) (hcop:qeo n.jobs id=(i:Int)) (h:n.mid 100000) (ha0:j0.asked=[]) (hk0:j0.acks=0) (hw0:j0.waits=0) (H:qac) (hM:MoreS H n i c j0 (.sc (.slice none 0 0)) (.sc (.slice none 0 0)))
  (K:AVal×qac→Option Res) (R:Option Res) (q:Jb×List Ac) (hq:qdv id n.list j0=q)
  (ka:∀H' A X,MoreS H' n i c q.1 A X→qHz H' A q.1.asked→qtF H' X q.2→(∀o,o<40000→H' o=H o)→0<q.1.waits→K (.tup [],H')=R)
  (kb:∀H',qnv 40106 (qaN n i q).1 (qaN n i q).2 H'→(∀o,o<40000→H' o=H o)→¬0<q.1.waits→K (.tup [],H')=R) :
  @kB _ _ (il (C1 g) 168 [.ptr 40106 1 0 0,.int .i64 id] H) ⟨K⟩=R:=by
 obtain ⟨W1,W2,W3,W4,W5⟩:=hM
 have jl:=h.jl
 have ll:=h.ll
 have pl:=qFi n (.sc (.slice none 0 0)) i hi (by rw [hj0,ha0]) id hcop (by omega)
 rw [hj0]at pl
 have row:=qcA (R:=[.int .i64 j0.id,.int .i64 j0.kind,.int .i64 j0.phase,.int .i64 j0.hops,.int .i64 j0.tries,.int .i64 j0.til,.str j0.key,.str j0.val,.str j0.owner.name,.int .u64 (j0.owner.id:Int),.int .i64 j0.owner.fr,.int .i64 j0.owner.un,.int .i64 j0.owner.ix,.str j0.owner.tag,.str j0.item.k,.str j0.item.v,.int .i64 j0.item.n,.bool j0.item.g,.int .i64 j0.acks,.int .i64 j0.waits,.sc (.slice none 0 0),.str j0.back.name,.int .u64 (j0.back.id:Int),.int .i64 j0.back.fr,.int .i64 j0.back.un,.int .i64 j0.back.ix,.str j0.back.tag,.int .i64 j0.backRid,.int .i64 j0.backJob]) hi
 rw [qaD (C:=C1 g) Tryz.func168 rfl Tryz.results168 (show (C1 g).M.loc 168=_ from qwC.1) (by kernel_rfl)]
 simp -implicitDefEqProofs -dsimp +contextual (maxSteps:=9999999) (disch:=first | omega | simp only [go_sem]<;>omega | refine ib ?_;kernel_rfl) only [go_sem,seval,↓reduceIte,W1,W2,W3,W4,W5,pl,qbH,hi,row,Nat.not_lt_zero]
 clear pl row
 refine qkA (.exit 0) (fun f H'=>f 0= .ptr 40106 1 0 0∧f 1= .int .i64 id∧f 4= .int .i64 (i:Nat)∧f 5= .ptr 60130 c i 0∧q.1.asked.length≤200000∧q.2.length≤100000∧(∀o,o<40000→H' o=H o)∧∃A X,MoreS H' n i c q.1 A X∧((q=(j0,[])∧A= .sc (.slice none 0 0)∧X= .sc (.slice none 0 0))∨(qHz H' A q.1.asked∧qtF H' X q.2))) ?_ ?_
 ·intro Q hQ
  refine qaj (fun (a:Nat×Jb×List Ac) f H'=>a.1≤n.list.length∧qnC id (n.list.drop a.1) a.2.1 a.2.2 q∧a.2.1.asked.length≤100000+a.1∧a.2.2.length≤a.1∧f 0= .ptr 40106 1 0 0∧f 1= .int .i64 id∧f 4= .int .i64 (i:Nat)∧f 5= .ptr 60130 c i 0∧f 25= .slice 8 (n.list.map Pr.cs)∧f 26= .int .i64 (n.list.length:Nat)∧f 27= .int .i64 (a.1:Nat)∧
   (∀o,o<40000→H' o=H o)∧∃A X,MoreS H' n i c a.2.1 A X∧((a=(0,j0,[])∧A= .sc (.slice none 0 0)∧X= .sc (.slice none 0 0))∨(qHz H' A a.2.1.asked∧qtF H' X a.2.2))) (fun a=>n.list.length - a.1) (fun _=>R) ?_ (0,j0,[]) _ _ (by exact ⟨Nat.zero_le _,⟨by rw [List.drop_zero,hq],by rw [List.drop_zero,hq];rfl⟩,by rw [ha0];exact Nat.zero_le _,Nat.le_refl _,rfl,rfl,rfl,rfl,rfl,rfl,rfl,fun o ho=>rfl,_,_,⟨W1,W2,W3,W4,W5⟩,.inl ⟨rfl,rfl,rfl⟩⟩)
  clear W1 W2 W3 W4 W5
  rintro ⟨k,j,acts⟩ f H' ⟨hk,hI,hal2,hac,f0,f1,f4,f5,f25,f26,f27,hfr,A,X,⟨W1,W2,W3,W4,W5⟩,hAX⟩ ih
  try simp only at hk hI hal2 hac f27 W1 W4 hAX ih
  have row:=fun R=>qcA (R:=R) hi
  by_cases hl:k<n.list.length
  ·rcases hAX with ⟨he,rfl,rfl⟩|⟨⟨ga,rfl,ha⟩,hX⟩
   ·have prow:=qda n.list k hl
    obtain ⟨rfl,rfl,rfl⟩:k=0∧j=j0∧acts=[]:=by simpa using he
    rw [List.drop_eq_getElem_cons hl]at hI
    have hfu:¬2≤qcM j.acks+qcM j.waits:=by rw [hk0,hw0];decide
    have b1:=qfN j.acks
    have b2:=qfN j.waits
    have hI':=hI.go hfu (by rw [ha0];simp)
    have nm:=qFb [] n.list[0].e.name (by simp)
    rw [decide_eq_false (by simp)]at nm
    simp only [List.map_nil]at nm
    have ih':=ih (0+1,{ j with waits:=qcM j.waits+1,asked:=j.asked++[n.list[0].e.name] },[]++[qhc n.list[0].e j.item id])
    try simp only at ih'
    clear ih
    simp -implicitDefEqProofs -dsimp +contextual (maxSteps:=9999999) (disch:=first | omega | simp only [go_sem]<;>omega | refine ib ?_;kernel_rfl) only [go_sem,seval,↓reduceIte,f0,f1,f4,f5,f25,f26,f27,hl,prow,W1,W2,W3,W4,W5,row,hfu,nm]
    refine ih' _ _ ?_ (by omega)
    refine ⟨hl,hI',by simp [ha0],by simp,f0,f1,f4,f5,f25,f26,rfl,fun o ho=>by repeat (first | exact hfr o ho | rw [qac.set_ne _ _ (by omega)]),_,_,⟨rfl,W2,W3,rfl,W5⟩,.inr ⟨⟨(H' 80167).gen+1,by rw [ha0];rfl,by rw [ha0];rfl⟩,.inr ⟨(H' 80189).gen+1,rfl,rfl⟩⟩⟩
   have prow:=qda n.list k hl
   rw [List.drop_eq_getElem_cons hl]at hI
   have b1:=qfN j.acks
   have b2:=qfN j.waits
   by_cases hfu:2≤qcM j.acks+qcM j.waits
   ·obtain rfl:=hI.full (l':=[]) hfu
    clear ih
    simp -implicitDefEqProofs -dsimp +contextual (maxSteps:=9999999) (disch:=first | omega | simp only [go_sem]<;>omega | refine ib ?_;kernel_rfl) only [go_sem,seval,↓reduceIte,f0,f1,f4,f5,f25,f26,f27,hl,prow,W1,W2,W3,W4,W5,ha,row,hfu]
    exact hQ _ _ ⟨f0,f1,f4,f5,by simp only;omega,by simp only;omega,fun o ho=>by repeat (first | exact hfr o ho | rw [qac.set_ne _ _ (by omega)]),_,_,⟨W1,W2,W3,W4,W5⟩,.inr ⟨⟨ga,rfl,ha⟩,hX⟩⟩
   ·by_cases hm:n.list[k].e.name∈j.asked
    ·have hI':=hI.skip hfu hm
     have nm:=qFb j.asked n.list[k].e.name (by omega)
     rw [decide_eq_true hm]at nm
     have ih':=ih (k+1,j,acts)
     try simp only at ih'
     clear ih
     simp -implicitDefEqProofs -dsimp +contextual (maxSteps:=9999999) (disch:=first | omega | simp only [go_sem]<;>omega | refine ib ?_;kernel_rfl) only [go_sem,seval,↓reduceIte,f0,f1,f4,f5,f25,f26,f27,hl,prow,W1,W2,W3,W4,W5,ha,row,hfu,nm]
     refine ih' _ _ ?_ (by omega)
     exact ⟨hl,hI',by omega,by omega,f0,f1,f4,f5,f25,f26,rfl,fun o ho=>by repeat (first | exact hfr o ho | rw [qac.set_ne _ _ (by omega)]),_,_,⟨W1,W2,W3,W4,W5⟩,.inr ⟨⟨ga,rfl,ha⟩,hX⟩⟩
    ·have hI':=hI.go hfu hm
     have nm:=qFb j.asked n.list[k].e.name (by omega)
     rw [decide_eq_false hm]at nm
     have ih':=ih (k+1,{ j with waits:=qcM j.waits+1,asked:=j.asked++[n.list[k].e.name] },acts++[qhc n.list[k].e j.item id])
     try simp only at ih'
     clear ih
     rcases hX with ⟨rfl,rfl⟩|⟨gx,rfl,hX⟩
     ·simp -implicitDefEqProofs -dsimp +contextual (maxSteps:=9999999) (disch:=first | omega | simp only [go_sem]<;>omega | refine ib ?_;kernel_rfl) only [go_sem,seval,↓reduceIte,f0,f1,f4,f5,f25,f26,f27,hl,prow,W1,W2,W3,W4,W5,ha,row,hfu,nm,hal2]
      refine ih' _ _ ?_ (by omega)
      refine ⟨hl,hI',by simp;omega,by simp,f0,f1,f4,f5,f25,f26,rfl,fun o ho=>by repeat (first | exact hfr o ho | rw [qac.set_ne _ _ (by omega)]),_,_,⟨rfl,W2,W3,rfl,W5⟩,.inr ⟨⟨ga+1,by simp,by rw [List.map_append];rfl⟩,.inr ⟨(H' 80189).gen+1,rfl,rfl⟩⟩⟩
     ·simp -implicitDefEqProofs -dsimp +contextual (maxSteps:=9999999) (disch:=first | omega | simp only [go_sem]<;>omega | refine ib ?_;kernel_rfl) only [go_sem,seval,↓reduceIte,f0,f1,f4,f5,f25,f26,f27,hl,prow,W1,W2,W3,W4,W5,ha,hX,row,hfu,nm,hal2]
      refine ih' _ _ ?_ (by omega)
      refine ⟨hl,hI',by simp;omega,by simp;omega,f0,f1,f4,f5,f25,f26,rfl,fun o ho=>by repeat (first | exact hfr o ho | rw [qac.set_ne _ _ (by omega)]),_,_,⟨rfl,W2,W3,rfl,W5⟩,.inr ⟨⟨ga+1,by simp,by rw [List.map_append];rfl⟩,.inr ⟨gx+1,by simp,by rw [List.map_append];rfl⟩⟩⟩
  ·obtain rfl:k=n.list.length:=by omega
   rw [List.drop_length]at hI
   obtain rfl:=hI.done
   clear ih
   rcases hAX with ⟨he,rfl,rfl⟩|⟨⟨ga,rfl,ha⟩,hX⟩
   ·obtain ⟨h0,rfl,rfl⟩:n.list.length=0∧j=j0∧acts=[]:=by simpa using he
    simp -implicitDefEqProofs -dsimp +contextual (maxSteps:=9999999) (disch:=first | omega | simp only [go_sem]<;>omega | refine ib ?_;kernel_rfl) only [go_sem,seval,↓reduceIte,f0,f1,f4,f5,f25,f26,f27,W1,W2,W3,W4,W5,row]
    exact hQ _ _ ⟨f0,f1,f4,f5,by simp only;omega,by simp only;omega,hfr,_,_,⟨W1,W2,W3,W4,W5⟩,.inl ⟨rfl,rfl,rfl⟩⟩
   ·simp -implicitDefEqProofs -dsimp +contextual (maxSteps:=9999999) (disch:=first | omega | simp only [go_sem]<;>omega | refine ib ?_;kernel_rfl) only [go_sem,seval,↓reduceIte,f0,f1,f4,f5,f25,f26,f27,W1,W2,W3,W4,W5,ha,row]
    exact hQ _ _ ⟨f0,f1,f4,f5,by simp only;omega,by simp only;omega,hfr,_,_,⟨W1,W2,W3,W4,W5⟩,.inr ⟨⟨ga,rfl,ha⟩,hX⟩⟩
 ·clear W1 W2 W3 W4 W5
  obtain ⟨j,acts⟩:=q
  rintro f H' ⟨f0,f1,f4,f5,hjl,hql,hfr,A,X,⟨W1,W2,W3,W4,W5⟩,hAX⟩
  try simp only at W4 hAX ka kb hjl hql
  have row:=fun R=>qcA (R:=R) hi
  rcases hAX with ⟨he,rfl,rfl⟩|⟨⟨ga,rfl,ha⟩,hX⟩
  ·obtain ⟨rfl,rfl⟩:j=j0∧acts=[]:=by simpa using he
   have hw:¬0<j.waits:=by omega
   have hw':j.waits≤0:=by omega
   have hmf:qaN n i (j,[])=((qb6 { n with jobs:=n.jobs.eraseIdx i } j.back j.backRid j.backJob j.item (!j.item.g) 0).1,[]++(qb6 { n with jobs:=n.jobs.eraseIdx i } j.back j.backRid j.backJob j.item (!j.item.g) 0).2):=by unfold qaN;rw [if_neg hw]
   rw [hmf,List.nil_append]at kb
   clear hmf ka
   have hm':=qdQ i h
   have drp:=qHQ n i hi (by rw [hj0,ha0]) (h.le (by omega))
   rw [hj0]at drp
   simp only [ha0,List.map_nil]at drp
   by_cases hj:j.backJob=0
   ·rw [qb6,if_pos hj]at kb
    have en:=qsN { n with jobs:=n.jobs.eraseIdx i } _ _ .nil j hj (hm'.le (by omega)) (by simp)
    simp only [ha0,List.map_nil]at en
    simp -implicitDefEqProofs -dsimp +contextual (maxSteps:=9999999) (disch:=first | omega | simp only [go_sem]<;>omega | refine ib ?_;kernel_rfl) only [go_sem,seval,↓reduceIte,f0,f1,f4,f5,W1,W2,W3,W4,W5,row,hw',qbH,hi,drp,en]
    exact kb _ ⟨_,_,_,_,_,_,rfl,rfl,rfl,rfl,rfl,.inr ⟨rfl,rfl⟩⟩ (fun o ho=>by repeat (first | exact hfr o ho | rw [qac.set_ne _ _ (by omega)])) hw
   ·rw [qb6,if_neg hj]at kb
    obtain ⟨js,rs,hs⟩:=qdh { n with jobs:=n.jobs.eraseIdx i } j.backJob j.item (!j.item.g) 0
    have en:=qsO { n with jobs:=n.jobs.eraseIdx i } _ _ .nil j hj (hm'.le (by omega))
    simp only [ha0,List.map_nil]at en
    rw [hs]at en kb
    try simp only at en kb
    simp -implicitDefEqProofs -dsimp +contextual (maxSteps:=9999999) (disch:=first | omega | simp only [go_sem]<;>omega | refine ib ?_;kernel_rfl) only [go_sem,seval,↓reduceIte,f0,f1,f4,f5,W1,W2,W3,W4,W5,row,hw',qbH,hi,drp,en]
    exact kb _ ⟨0,_,_,_,_,_,rfl,rfl,rfl,rfl,rfl,.inl ⟨rfl,rfl⟩⟩ (fun o ho=>by repeat (first | exact hfr o ho | rw [qac.set_ne _ _ (by omega)])) hw
  by_cases hw:0<j.waits
  ·have hw':¬j.waits≤0:=by omega
   simp -implicitDefEqProofs -dsimp +contextual (maxSteps:=9999999) (disch:=first | omega | simp only [go_sem]<;>omega | refine ib ?_;kernel_rfl) only [go_sem,seval,↓reduceIte,f0,f1,f4,f5,W1,W2,W3,W4,W5,ha,row,hw']
   exact ka H' _ _ ⟨W1,W2,W3,W4,W5⟩ ⟨ga,rfl,ha⟩ hX hfr hw
  ·have hw':j.waits≤0:=by omega
   have hmf:qaN n i (j,acts)=((qb6 { n with jobs:=n.jobs.eraseIdx i } j.back j.backRid j.backJob j.item (!j.item.g) 0).1,acts++(qb6 { n with jobs:=n.jobs.eraseIdx i } j.back j.backRid j.backJob j.item (!j.item.g) 0).2):=by unfold qaN;rw [if_neg hw]
   rw [hmf]at kb
   clear hmf ka
   have hm':=qdQ i h
   have hms:({ n with jobs:=n.jobs.set i j }:Nd).mid 1000001:=qmD i j (h.le (by omega)) (by omega)
   by_cases hj:j.backJob=0
   ·rw [qb6,if_pos hj]at kb
    rcases hX with ⟨rfl,rfl⟩|⟨gx,rfl,hX⟩
    ·have drp:=qi1 { n with jobs:=n.jobs.set i j } _ _ .nil i (by simpa using hi) hms
     simp only [List.getElem_set_self,qco]at drp
     have en:=qsN { n with jobs:=n.jobs.eraseIdx i } _ _ .nil j hj (hm'.le (by omega)) (by simp)
     try simp only at en
     simp -implicitDefEqProofs -dsimp +contextual (maxSteps:=9999999) (disch:=first | omega | simp only [go_sem]<;>omega | refine ib ?_;kernel_rfl) only [go_sem,seval,↓reduceIte,f0,f1,f4,f5,W1,W2,W3,W4,W5,ha,row,hw',qbH,hi,drp,en]
     exact kb _ ⟨_,_,_,_,_,_,rfl,rfl,rfl,rfl,rfl,.inr ⟨rfl,rfl⟩⟩ (fun o ho=>by repeat (first | exact hfr o ho | rw [qac.set_ne _ _ (by omega)])) hw
    ·have drp:=qi1 { n with jobs:=n.jobs.set i j } _ _ (.us acts) i (by simpa using hi) hms
     simp only [List.getElem_set_self,qco]at drp
     have en:=qsN { n with jobs:=n.jobs.eraseIdx i } _ _ (.us acts) j hj (hm'.le (by omega)) (by omega)
     try simp only at en
     simp -implicitDefEqProofs -dsimp +contextual (maxSteps:=9999999) (disch:=first | omega | simp only [go_sem]<;>omega | refine ib ?_;kernel_rfl) only [go_sem,seval,↓reduceIte,f0,f1,f4,f5,W1,W2,W3,W4,W5,ha,row,hw',qbH,hi,drp,en,hX]
     exact kb _ ⟨_,_,_,_,_,_,rfl,rfl,rfl,rfl,rfl,.inr ⟨by simp,rfl⟩⟩ (fun o ho=>by repeat (first | exact hfr o ho | rw [qac.set_ne _ _ (by omega)])) hw
   ·rw [qb6,if_neg hj]at kb
    obtain ⟨js,rs,hs⟩:=qdh { n with jobs:=n.jobs.eraseIdx i } j.backJob j.item (!j.item.g) 0
    rcases hX with ⟨rfl,rfl⟩|⟨gx,rfl,hX⟩
    ·have drp:=qi1 { n with jobs:=n.jobs.set i j } _ _ .nil i (by simpa using hi) hms
     simp only [List.getElem_set_self,qco]at drp
     have en:=qsO { n with jobs:=n.jobs.eraseIdx i } _ _ .nil j hj (hm'.le (by omega))
     try simp only at en
     rw [hs]at en kb
     try simp only at en kb
     simp -implicitDefEqProofs -dsimp +contextual (maxSteps:=9999999) (disch:=first | omega | simp only [go_sem]<;>omega | refine ib ?_;kernel_rfl) only [go_sem,seval,↓reduceIte,f0,f1,f4,f5,W1,W2,W3,W4,W5,ha,row,hw',qbH,hi,drp,en]
     exact kb _ ⟨0,_,_,_,_,_,rfl,rfl,rfl,rfl,rfl,.inl ⟨rfl,rfl⟩⟩ (fun o ho=>by repeat (first | exact hfr o ho | rw [qac.set_ne _ _ (by omega)])) hw
    ·have drp:=qi1 { n with jobs:=n.jobs.set i j } _ _ (.us acts) i (by simpa using hi) hms
     simp only [List.getElem_set_self,qco]at drp
     have en:=qsO { n with jobs:=n.jobs.eraseIdx i } _ _ (.us acts) j hj (hm'.le (by omega))
     try simp only at en
     rw [hs]at en kb
     try simp only at en kb
     rw [List.append_nil]at kb
     simp -implicitDefEqProofs -dsimp +contextual (maxSteps:=9999999) (disch:=first | omega | simp only [go_sem]<;>omega | refine ib ?_;kernel_rfl) only [go_sem,seval,↓reduceIte,f0,f1,f4,f5,W1,W2,W3,W4,W5,ha,row,hw',qbH,hi,drp,en,hX]
     exact kb _ ⟨_,_,_,_,_,_,rfl,rfl,rfl,rfl,rfl,.inr ⟨rfl,rfl⟩⟩ (fun o ho=>by repeat (first | exact hfr o ho | rw [qac.set_ne _ _ (by omega)])) hw
@[go_sem] theorem qJy:M.nl 166=[]:=Eq.trans rfl rfl
@[go_sem] theorem qJz:M.nl 203=[]:=Eq.trans rfl rfl
def qmy (q:Nd×List Ac):Option Res:=some (.tup [.agg q.1.ocs,.usl 20 (q.2.map Ac.cs)],[])
theorem qh8 (l:List Jb) (id:Int):(∃i:Nat,i<l.length∧qeo l id=(i:Int))∨qeo l id= -1:=by
 rcases qch l id with ⟨i,hi,hid,_,hf⟩|⟨_,hf⟩
 ·by_cases hk:l[i].kind=4
  ·exact .inl ⟨i,hi,qmA hi hf hk⟩
  ·exact .inr (qgW hi hf hk)
 ·exact .inr (qgX hf)
theorem qh9 {n:Nd} {id:Int} (h:qeo n.jobs id= -1):qhv n id=(n,[]):=by
 unfold qhv;rw [h,if_neg (by omega)]
theorem qns {n:Nd} {id:Int} {i:Nat} (hi:i<n.jobs.length) (h:qeo n.jobs id=(i:Int)):qhv n id=qaN n i (qdv id n.list n.jobs[i]):=by
 unfold qhv qtB;rw [h,if_pos (by omega),Int.toNat_natCast,qdu hi]
theorem qkt (g:Int) (n:Nd) (id:Int) (c:Nat) (hcop:qeo n.jobs id= -1) (h:n.mid 100000) (H:qac)
  (W1:H 40106=⟨1,.live,23,[[.str n.me.name,.int .u64 (n.me.id:Int),.int .i64 n.me.fr,.int .i64 n.me.un,.int .i64 n.me.ix,.str n.me.tag,.int .i64 n.clock,.str n.psk,.int .i64 n.gateI,.str n.gateK,.bool n.ready,.slice 8 (n.pred.map Pr.cs),.slice 8 (n.list.map Pr.cs),.slice 9 (n.fingers.map Fg.cs),.osl 60118 1 0 n.sessions.length,.osl 60121 1 0 n.pends.length,.slice 4 (n.items.map It.cs),.osl 60130 c 0 n.jobs.length,.int .i64 n.rid,.int .i64 n.jobId,.slice 1 (n.draws.map qaw),.osl 60136 1 0 n.results.length,.sc (.slice none 0 0)]],false⟩)
  (W2:H 60118=⟨1,.live,20,n.sessions.map Se.cs,false⟩) (W3:H 60121=⟨1,.live,23,n.pends.map Pd.cs,false⟩) (W4:H 60130=⟨c,.live,29,n.jobs.map Jb.cs,false⟩) (W5:H 60136=⟨1,.live,8,n.results.map Rs.cs,false⟩)
  (K:AVal×qac→Option Res) (R:Option Res) (k:K (.tup [],H)=R):@kB _ _ (il (C1 g) 168 [.ptr 40106 1 0 0,.int .i64 id] H) ⟨K⟩=R:=by
 have jl:=h.jl
 have pl:=qxV n (.sc (.slice none 0 0)) id (by omega)
 rw [hcop]at pl
 rw [qaD (C:=C1 g) Tryz.func168 rfl Tryz.results168 (show (C1 g).M.loc 168=_ from qwC.1) (by kernel_rfl)]
 simp -implicitDefEqProofs -dsimp +contextual (maxSteps:=9999999) (disch:=first | omega | simp only [go_sem]<;>omega | refine ib ?_;kernel_rfl) only [go_sem,seval,↓reduceIte,W1,W2,W3,W4,W5,pl]
 exact k
theorem qEZ (n:Nd) (x:It) (back:En) (rid job:Int):n.jobs.map Jb.cs++[[.int .i64 (qbs n.jobId),.int .i64 4,.int .i64 0,.int .i64 0,.int .i64 0,.int .i64 (n.clock+192),.str [],.str [],.str [],.int .u64 0,.int .i64 0,.int .i64 0,.int .i64 0,.str [],.str x.k,.str x.v,.int .i64 x.n,.bool x.g,.int .i64 0,.int .i64 0,.slice 1 [],.str back.name,.int .u64 (back.id:Int),.int .i64 back.fr,.int .i64 back.un,.int .i64 back.ix,.str back.tag,.int .i64 rid,.int .i64 job]]=(n.jobs++[qfC n x back rid job]).map Jb.cs:=by rw [List.map_append];rfl
theorem qAS (n:Nd) (x:It) (back:En) (rid job:Int):n.jobs.map Jb.cs++[[.int .i64 (qbs n.jobId),.int .i64 4,.int .i64 0,.int .i64 0,.int .i64 0,.int .i64 (n.clock+192),.str [],.str [],.str [],.int .u64 0,.int .i64 0,.int .i64 0,.int .i64 0,.str [],.str x.k,.str x.v,.int .i64 x.n,.bool x.g,.int .i64 0,.int .i64 0,.sc (.slice none 0 0),.str back.name,.int .u64 (back.id:Int),.int .i64 back.fr,.int .i64 back.un,.int .i64 back.ix,.str back.tag,.int .i64 rid,.int .i64 job]]=qbd (n.jobs++[qfC n x back rid job]) n.jobs.length [.int .i64 (qbs n.jobId),.int .i64 4,.int .i64 0,.int .i64 0,.int .i64 0,.int .i64 (n.clock+192),.str [],.str [],.str [],.int .u64 0,.int .i64 0,.int .i64 0,.int .i64 0,.str [],.str x.k,.str x.v,.int .i64 x.n,.bool x.g,.int .i64 0,.int .i64 0,.sc (.slice none 0 0),.str back.name,.int .u64 (back.id:Int),.int .i64 back.fr,.int .i64 back.un,.int .i64 back.ix,.str back.tag,.int .i64 rid,.int .i64 job]:=by
 unfold qbd
 rw [List.map_append,List.set_append_right _ _ (by simp)]
 simp [qfC,jbZ,enZ]
theorem qsH (n:Nd) (i:Nat) (hi:i<n.jobs.length) (R:List AVal) (x:It) (back:En) (rid job:Int):qbd n.jobs i R++[[.int .i64 (qbs n.jobId),.int .i64 4,.int .i64 0,.int .i64 0,.int .i64 0,.int .i64 (n.clock+192),.str [],.str [],.str [],.int .u64 0,.int .i64 0,.int .i64 0,.int .i64 0,.str [],.str x.k,.str x.v,.int .i64 x.n,.bool x.g,.int .i64 0,.int .i64 0,.slice 1 [],.str back.name,.int .u64 (back.id:Int),.int .i64 back.fr,.int .i64 back.un,.int .i64 back.ix,.str back.tag,.int .i64 rid,.int .i64 job]]=qbd (n.jobs++[qfC n x back rid job]) i R:=by
 unfold qbd
 rw [List.map_append,List.set_append_left _ _ (by simpa using hi)]
 rfl
@[go_sem] theorem qNa:M.nl 109=[]:=Eq.trans rfl rfl
theorem qwK (n:Nd) (key val:List UInt8) (gone:Bool) (back:En) (rid job:Int) (h:n.mid 90000) (hk:key.length≤9223372036854775807) (hc:0≤n.clock∧n.clock≤1099511627776) (he:¬qaK n key val gone=0) (hj:job=0) :
  fn (C1 (-1)) 109 [] [(aNd n),.str key,.str val,.bool gone,.agg [.str back.name,.int .u64 (back.id:Int),.int .i64 back.fr,.int .i64 back.un,.int .i64 back.ix,.str back.tag],.int .i64 rid,.int .i64 job]=qmy (n,[qb5 back rid qa6 (qaK n key val gone)]):=by
 obtain ⟨g,hg⟩:∃g:Int,g= -1:=⟨_,rfl⟩
 rw [←hg]
 have nl:=qwU g (by omega)
 have il:=h.il
 have jl:=h.jl
 have pu:=qFu n.items key val gone (by omega) hk
 have tw:=fun e=>qxT n _ _ .nil back rid qa6 false e (h.le (by omega)) (by simp)
 simp only [aNd,qe7,qe8,qe9,qfa]at tw
 subst hj
 rw [qah (C:=C1 g) Tryz.func109 rfl rfl Tryz.results109 (show (C1 g).M.loc 109=_ from qpF.1) rfl rfl (by kernel_rfl)]
 simp -implicitDefEqProofs -dsimp +contextual (maxSteps:=9999999) (disch:=first | omega | simp only [go_sem]<;>omega | refine ib ?_;kernel_rfl) only [go_sem,seval,↓reduceIte,nl]
 refine qnB n (h.le (by omega)) g (by omega) _ ?_ _ _ fun H' W hfr=>?_
 ·intro o ho;repeat (first | rfl | rw [qac.set_ne _ _ (by omega)])
 obtain ⟨W1,W2,W3,W4,W5⟩:=W
 have g4:(H' 114).gen=1:=by rw [hfr 114 (by omega)];rfl
 have m4:(H' 114).mode= .live:=by rw [hfr 114 (by omega)];rfl
 obtain ⟨r,hr,H4r⟩:∃r:List AVal,r.length=22∧(H' 114).rows=[r]:=by rw [hfr 114 (by omega)];exact ⟨_,rfl,rfl⟩
 have h11:H' 111=⟨1,.live,6,[[.str back.name,.int .u64 (back.id:Int),.int .i64 back.fr,.int .i64 back.un,.int .i64 back.ix,.str back.tag]],false⟩:=by rw [hfr 111 (by omega)];rfl
 have h18:H' 118=⟨0,.dead,0,[],false⟩:=by rw [hfr 118 (by omega)];rfl
 by_cases h8:8≤n.jobs.length
 ·have hb:qaK n key val gone=41:=by unfold qaK;rw [if_pos h8]
  rw [hb]at he ⊢
  clear hb
  have tw:=tw 41
  simp -implicitDefEqProofs -dsimp +contextual (maxSteps:=9999999) (disch:=first | omega | simp only [go_sem]<;>omega | refine ib ?_;kernel_rfl) only [go_sem,seval,↓reduceIte,nl,W1,W2,W3,W4,W5,pu,h11,h18,g4,m4,hr,H4r,h8,tw]
  rw [qaD (C:=C1 g) Tryz.func166 rfl Tryz.results166 (show (C1 g).M.loc 166=_ from qe2.1) (by kernel_rfl)]
  simp -implicitDefEqProofs -dsimp +contextual (maxSteps:=9999999) (disch:=first | omega | simp only [go_sem]<;>omega | refine ib ?_;kernel_rfl) only [go_sem,seval,↓reduceIte,nl,W1,W2,W3,W4,W5,g4,m4,hr,H4r]
  rfl
 ·have hb:qaK n key val gone=(qcN n.items key val gone).2.2:=by unfold qaK;rw [if_neg h8]
  rw [hb]at he ⊢
  clear hb
  have tw:=tw (qcN n.items key val gone).2.2
  generalize qcN n.items key val gone=p at *
  obtain ⟨p1,p2,p3⟩:=p
  try simp only at he tw pu ⊢
  simp -implicitDefEqProofs -dsimp +contextual (maxSteps:=9999999) (disch:=first | omega | simp only [go_sem]<;>omega | refine ib ?_;kernel_rfl) only [go_sem,seval,↓reduceIte,nl,W1,W2,W3,W4,W5,pu,h11,h18,g4,m4,hr,H4r,h8,tw,he]
  rw [qaD (C:=C1 g) Tryz.func166 rfl Tryz.results166 (show (C1 g).M.loc 166=_ from qe2.1) (by kernel_rfl)]
  simp -implicitDefEqProofs -dsimp +contextual (maxSteps:=9999999) (disch:=first | omega | simp only [go_sem]<;>omega | refine ib ?_;kernel_rfl) only [go_sem,seval,↓reduceIte,nl,W1,W2,W3,W4,W5,g4,m4,hr,H4r]
  rfl
theorem qwL (n:Nd) (key val:List UInt8) (gone:Bool) (back:En) (rid job:Int) (h:n.mid 90000) (hk:key.length≤9223372036854775807) (hc:0≤n.clock∧n.clock≤1099511627776) (he:¬qaK n key val gone=0) (hj:¬job=0) :
  fn (C1 (-1)) 109 [] [(aNd n),.str key,.str val,.bool gone,.agg [.str back.name,.int .u64 (back.id:Int),.int .i64 back.fr,.int .i64 back.un,.int .i64 back.ix,.str back.tag],.int .i64 rid,.int .i64 job]=qmy (qaW n job qa6 false (qaK n key val gone),[]):=by
 obtain ⟨g,hg⟩:∃g:Int,g= -1:=⟨_,rfl⟩
 rw [←hg]
 have nl:=qwU g (by omega)
 have il:=h.il
 have jl:=h.jl
 have pu:=qFu n.items key val gone (by omega) hk
 have tw:=fun e=>qxU n _ _ .nil back rid job qa6 false e hj (h.le (by omega))
 simp only [aNd,qe7,qe8,qe9,qfa]at tw
 rw [qah (C:=C1 g) Tryz.func109 rfl rfl Tryz.results109 (show (C1 g).M.loc 109=_ from qpF.1) rfl rfl (by kernel_rfl)]
 simp -implicitDefEqProofs -dsimp +contextual (maxSteps:=9999999) (disch:=first | omega | simp only [go_sem]<;>omega | refine ib ?_;kernel_rfl) only [go_sem,seval,↓reduceIte,nl]
 refine qnB n (h.le (by omega)) g (by omega) _ ?_ _ _ fun H' W hfr=>?_
 ·intro o ho;repeat (first | rfl | rw [qac.set_ne _ _ (by omega)])
 obtain ⟨W1,W2,W3,W4,W5⟩:=W
 have g4:(H' 114).gen=1:=by rw [hfr 114 (by omega)];rfl
 have m4:(H' 114).mode= .live:=by rw [hfr 114 (by omega)];rfl
 obtain ⟨r,hr,H4r⟩:∃r:List AVal,r.length=22∧(H' 114).rows=[r]:=by rw [hfr 114 (by omega)];exact ⟨_,rfl,rfl⟩
 have h11:H' 111=⟨1,.live,6,[[.str back.name,.int .u64 (back.id:Int),.int .i64 back.fr,.int .i64 back.un,.int .i64 back.ix,.str back.tag]],false⟩:=by rw [hfr 111 (by omega)];rfl
 have h18:H' 118=⟨0,.dead,0,[],false⟩:=by rw [hfr 118 (by omega)];rfl
 by_cases h8:8≤n.jobs.length
 ·have hb:qaK n key val gone=41:=by unfold qaK;rw [if_pos h8]
  rw [hb]at he ⊢
  clear hb
  have tw:=tw 41
  obtain ⟨js,rs,hs⟩:=qdh n job qa6 false 41
  rw [hs]at tw ⊢
  try simp only at tw
  simp -implicitDefEqProofs -dsimp +contextual (maxSteps:=9999999) (disch:=first | omega | simp only [go_sem]<;>omega | refine ib ?_;kernel_rfl) only [go_sem,seval,↓reduceIte,nl,W1,W2,W3,W4,W5,pu,h11,h18,g4,m4,hr,H4r,h8,tw]
  rw [qaD (C:=C1 g) Tryz.func166 rfl Tryz.results166 (show (C1 g).M.loc 166=_ from qe2.1) (by kernel_rfl)]
  simp -implicitDefEqProofs -dsimp +contextual (maxSteps:=9999999) (disch:=first | omega | simp only [go_sem]<;>omega | refine ib ?_;kernel_rfl) only [go_sem,seval,↓reduceIte,nl,W1,W2,W3,W4,W5,g4,m4,hr,H4r]
  rfl
 ·have hb:qaK n key val gone=(qcN n.items key val gone).2.2:=by unfold qaK;rw [if_neg h8]
  rw [hb]at he ⊢
  clear hb
  have tw:=tw (qcN n.items key val gone).2.2
  generalize qcN n.items key val gone=p at *
  obtain ⟨p1,p2,p3⟩:=p
  try simp only at he tw pu ⊢
  obtain ⟨js,rs,hs⟩:=qdh n job qa6 false p3
  rw [hs]at tw ⊢
  try simp only at tw
  simp -implicitDefEqProofs -dsimp +contextual (maxSteps:=9999999) (disch:=first | omega | simp only [go_sem]<;>omega | refine ib ?_;kernel_rfl) only [go_sem,seval,↓reduceIte,nl,W1,W2,W3,W4,W5,pu,h11,h18,g4,m4,hr,H4r,h8,tw,he]
  rw [qaD (C:=C1 g) Tryz.func166 rfl Tryz.results166 (show (C1 g).M.loc 166=_ from qe2.1) (by kernel_rfl)]
  simp -implicitDefEqProofs -dsimp +contextual (maxSteps:=9999999) (disch:=first | omega | simp only [go_sem]<;>omega | refine ib ?_;kernel_rfl) only [go_sem,seval,↓reduceIte,nl,W1,W2,W3,W4,W5,g4,m4,hr,H4r]
  rfl
theorem qAT (n:Nd) (key val:List UInt8) (gone:Bool) (back:En) (rid job:Int) (h:n.mid 90000) (hk:key.length≤9223372036854775807) (hc:0≤n.clock∧n.clock≤1099511627776) (he:qaK n key val gone=0) (hcop:qeo (qat n key val gone back rid job).jobs (qbs n.jobId)= -1) :
  fn (C1 (-1)) 109 [] [(aNd n),.str key,.str val,.bool gone,.agg [.str back.name,.int .u64 (back.id:Int),.int .i64 back.fr,.int .i64 back.un,.int .i64 back.ix,.str back.tag],.int .i64 rid,.int .i64 job]=qmy (qat n key val gone back rid job,[]):=by
 obtain ⟨g,hg⟩:∃g:Int,g= -1:=⟨_,rfl⟩
 rw [←hg]
 have nl:=qwU g (by omega)
 have il:=h.il
 have jl:=h.jl
 have pu:=qFu n.items key val gone (by omega) hk
 have hb:qaK n key val gone=(qcN n.items key val gone).2.2:=by
  unfold qaK at he ⊢
  split at he
  ·omega
  ·rw [if_neg (by assumption)]
 have h8:¬8≤n.jobs.length:=by
  intro h8;unfold qaK at he;rw [if_pos h8]at he;omega
 rw [hb]at he
 clear hb
 have hmid:(qat n key val gone back rid job).mid 100000:=(qdR key val gone back rid job hk h).le (by omega)
 rw [qah (C:=C1 g) Tryz.func109 rfl rfl Tryz.results109 (show (C1 g).M.loc 109=_ from qpF.1) rfl rfl (by kernel_rfl)]
 simp -implicitDefEqProofs -dsimp +contextual (maxSteps:=9999999) (disch:=first | omega | simp only [go_sem]<;>omega | refine ib ?_;kernel_rfl) only [go_sem,seval,↓reduceIte,nl]
 refine qnB n (h.le (by omega)) g (by omega) _ ?_ _ _ fun H' W hfr=>?_
 ·intro o ho;repeat (first | rfl | rw [qac.set_ne _ _ (by omega)])
 obtain ⟨W1,W2,W3,W4,W5⟩:=W
 have g4:(H' 114).gen=1:=by rw [hfr 114 (by omega)];rfl
 have m4:(H' 114).mode= .live:=by rw [hfr 114 (by omega)];rfl
 obtain ⟨r,hr,H4r⟩:∃r:List AVal,r.length=22∧(H' 114).rows=[r]:=by rw [hfr 114 (by omega)];exact ⟨_,rfl,rfl⟩
 have h11:H' 111=⟨1,.live,6,[[.str back.name,.int .u64 (back.id:Int),.int .i64 back.fr,.int .i64 back.un,.int .i64 back.ix,.str back.tag]],false⟩:=by rw [hfr 111 (by omega)];rfl
 have h18:H' 118=⟨0,.dead,0,[],false⟩:=by rw [hfr 118 (by omega)];rfl
 have hx:=qEZ n (qcN n.items key val gone).2.1 back rid job
 simp -implicitDefEqProofs -dsimp +contextual (maxSteps:=9999999) (disch:=first | omega | simp only [go_sem]<;>omega | refine ib ?_;kernel_rfl) only [go_sem,seval,↓reduceIte,nl,W1,W2,W3,W4,W5,pu,h11,h18,g4,m4,hr,H4r,h8,he,hx]
 refine qkt g (qat n key val gone back rid job) (qbs n.jobId) 2 hcop hmid _ ?_ ?_ ?_ ?_ ?_ _ _ ?_
 ·rw [qat];simp -implicitDefEqProofs -dsimp +contextual (maxSteps:=9999999) (disch:=first | omega | simp only [go_sem]<;>omega | refine ib ?_;kernel_rfl) only [go_sem,seval,↓reduceIte,List.length_append,List.length_singleton]
 ·exact W2
 ·exact W3
 ·rfl
 ·exact W5
 rw [qat]
 simp -implicitDefEqProofs -dsimp +contextual (maxSteps:=9999999) (disch:=first | omega | simp only [go_sem]<;>omega | refine ib ?_;kernel_rfl) only [go_sem,seval,↓reduceIte]
 rw [qaD (C:=C1 g) Tryz.func166 rfl Tryz.results166 (show (C1 g).M.loc 166=_ from qe2.1) (by kernel_rfl)]
 simp -implicitDefEqProofs -dsimp +contextual (maxSteps:=9999999) (disch:=first | omega | simp only [go_sem]<;>omega | refine ib ?_;kernel_rfl) only [go_sem,seval,↓reduceIte,nl,W1,W2,W3,W4,W5,g4,m4,hr,H4r,List.length_append,List.length_singleton]
 rfl
theorem qAU (n:Nd) (key val:List UInt8) (gone:Bool) (back:En) (rid job:Int) (h:n.mid 90000) (hk:key.length≤9223372036854775807) (hc:0≤n.clock∧n.clock≤1099511627776) (he:qaK n key val gone=0) (i:Nat) (hi:i<n.jobs.length) (hcop:qeo (qat n key val gone back rid job).jobs (qbs n.jobId)=(i:Int)) :
  fn (C1 (i:Int)) 109 [] [(aNd n),.str key,.str val,.bool gone,.agg [.str back.name,.int .u64 (back.id:Int),.int .i64 back.fr,.int .i64 back.un,.int .i64 back.ix,.str back.tag],.int .i64 rid,.int .i64 job]=qmy (qaN (qat n key val gone back rid job) i (qdv (qbs n.jobId) (qat n key val gone back rid job).list n.jobs[i])):=by
 obtain ⟨g,hg⟩:∃g:Int,g=(i:Int):=⟨_,rfl⟩
 have on:=qFf n (h.le (by omega)) i hi
 rw [←hg]at on ⊢
 have nl:=qwU g (by omega)
 have il:=h.il
 have jl:=h.jl
 have pu:=qFu n.items key val gone (by omega) hk
 have hb:qaK n key val gone=(qcN n.items key val gone).2.2:=by
  unfold qaK at he ⊢
  split at he
  ·omega
  ·rw [if_neg (by assumption)]
 have h8:¬8≤n.jobs.length:=by
  intro h8;unfold qaK at he;rw [if_pos h8]at he;omega
 rw [hb]at he
 clear hb
 have hmid:(qat n key val gone back rid job).mid 100000:=(qdR key val gone back rid job hk h).le (by omega)
 rw [qah (C:=C1 g) Tryz.func109 rfl rfl Tryz.results109 (show (C1 g).M.loc 109=_ from qpF.1) rfl rfl (by kernel_rfl)]
 simp -implicitDefEqProofs -dsimp +contextual (maxSteps:=9999999) (disch:=first | omega | simp only [go_sem]<;>omega | refine ib ?_;kernel_rfl) only [go_sem,seval,↓reduceIte,nl]
 refine on _ ?_ _ _ fun H' W W6 hfr=>?_
 ·intro o ho;repeat (first | rfl | rw [qac.set_ne _ _ (by omega)])
 obtain ⟨W1,W2,W3,W4,W5⟩:=W
 have g4:(H' 114).gen=1:=by rw [hfr 114 (by omega)];rfl
 have m4:(H' 114).mode= .live:=by rw [hfr 114 (by omega)];rfl
 obtain ⟨r,hr,H4r⟩:∃r:List AVal,r.length=22∧(H' 114).rows=[r]:=by rw [hfr 114 (by omega)];exact ⟨_,rfl,rfl⟩
 have h11:H' 111=⟨1,.live,6,[[.str back.name,.int .u64 (back.id:Int),.int .i64 back.fr,.int .i64 back.un,.int .i64 back.ix,.str back.tag]],false⟩:=by rw [hfr 111 (by omega)];rfl
 have h18:H' 118=⟨0,.dead,0,[],false⟩:=by rw [hfr 118 (by omega)];rfl
 have hx:=qsH n i hi [.int .i64 n.jobs[i].id,.int .i64 n.jobs[i].kind,.int .i64 n.jobs[i].phase,.int .i64 n.jobs[i].hops,.int .i64 n.jobs[i].tries,.int .i64 n.jobs[i].til,.str n.jobs[i].key,.str n.jobs[i].val,.str n.jobs[i].owner.name,.int .u64 (n.jobs[i].owner.id:Int),.int .i64 n.jobs[i].owner.fr,.int .i64 n.jobs[i].owner.un,.int .i64 n.jobs[i].owner.ix,.str n.jobs[i].owner.tag,.str n.jobs[i].item.k,.str n.jobs[i].item.v,.int .i64 n.jobs[i].item.n,.bool n.jobs[i].item.g,.int .i64 n.jobs[i].acks,.int .i64 n.jobs[i].waits,.osl 60155 1 0 n.jobs[i].asked.length,.str n.jobs[i].back.name,.int .u64 (n.jobs[i].back.id:Int),.int .i64 n.jobs[i].back.fr,.int .i64 n.jobs[i].back.un,.int .i64 n.jobs[i].back.ix,.str n.jobs[i].back.tag,.int .i64 n.jobs[i].backRid,.int .i64 n.jobs[i].backJob] (qcN n.items key val gone).2.1 back rid job
 simp -implicitDefEqProofs -dsimp +contextual (maxSteps:=9999999) (disch:=first | omega | simp only [go_sem]<;>omega | refine ib ?_;kernel_rfl) only [go_sem,seval,↓reduceIte,nl,W1,W2,W3,W4,W5,pu,h11,h18,g4,m4,hr,H4r,h8,he,hx]
 clear hx
 have him:i<(qat n key val gone back rid job).jobs.length:=by simp [qat];omega
 have hmj:(qat n key val gone back rid job).jobs[i]=n.jobs[i]:=List.getElem_append_left hi
 refine qwX g (qat n key val gone back rid job) (qbs n.jobId) i 2 n.jobs[i] (.osl 60155 1 0 n.jobs[i].asked.length) him (by rw [←hmj,List.set_getElem_self];exact hcop) hmid (Nat.le_trans (h.ja _ (List.getElem_mem hi)) (by omega)) _ ?_ ?_ _ _ _ rfl ?_ ?_
 ·refine ⟨?_,W2,W3,rfl,W5⟩
  rw [qat];simp -implicitDefEqProofs -dsimp +contextual (maxSteps:=9999999) (disch:=first | omega | simp only [go_sem]<;>omega | refine ib ?_;kernel_rfl) only [go_sem,seval,↓reduceIte,List.length_append,List.length_singleton]
 ·exact ⟨1,rfl,W6⟩
 ·intro H2 A X M2 A2 X2 hf2 hw
  obtain ⟨Y1,Y2,Y3,Y4,Y5⟩:=M2
  have k4:(H2 114).gen=1:=by rw [hf2 114 (by omega)];exact g4
  have n4:(H2 114).mode= .live:=by rw [hf2 114 (by omega)];exact m4
  have r4:(H2 114).rows=[r]:=by rw [hf2 114 (by omega)];exact H4r
  generalize qdv (qbs n.jobId) (qat n key val gone back rid job).list n.jobs[i]=q at *
  obtain ⟨j,acts⟩:=q
  have hmf:qaN (qat n key val gone back rid job) i (j,acts)=({ qat n key val gone back rid job with jobs:=(qat n key val gone back rid job).jobs.set i j },acts):=by unfold qaN;rw [if_pos hw]
  rw [hmf]
  clear hmf hw on
  generalize qat n key val gone back rid job=m at *
  obtain ⟨ga,rfl,ha⟩:=A2
  try simp only at Y1 Y4 ha X2
  rcases X2 with ⟨rfl,rfl⟩|⟨gx,rfl,hX⟩
  ·simp -implicitDefEqProofs -dsimp +contextual (maxSteps:=9999999) (disch:=first | omega | simp only [go_sem]<;>omega | refine ib ?_;kernel_rfl) only [go_sem,seval,↓reduceIte]
   rw [qaD (C:=C1 g) Tryz.func166 rfl Tryz.results166 (show (C1 g).M.loc 166=_ from qe2.1) (by kernel_rfl)]
   simp -implicitDefEqProofs -dsimp +contextual (maxSteps:=9999999) (disch:=first | omega | simp only [go_sem]<;>omega | refine ib ?_;kernel_rfl) only [go_sem,seval,↓reduceIte,nl,Y1,Y2,Y3,Y4,Y5,k4,n4,hr,r4,ha,qbH,him]
   rfl
  ·simp -implicitDefEqProofs -dsimp +contextual (maxSteps:=9999999) (disch:=first | omega | simp only [go_sem]<;>omega | refine ib ?_;kernel_rfl) only [go_sem,seval,↓reduceIte]
   rw [qaD (C:=C1 g) Tryz.func166 rfl Tryz.results166 (show (C1 g).M.loc 166=_ from qe2.1) (by kernel_rfl)]
   simp -implicitDefEqProofs -dsimp +contextual (maxSteps:=9999999) (disch:=first | omega | simp only [go_sem]<;>omega | refine ib ?_;kernel_rfl) only [go_sem,seval,↓reduceIte,nl,Y1,Y2,Y3,Y4,Y5,k4,n4,hr,r4,ha,hX,qbH,him]
   rfl
 ·intro H2 M2 hf2 hw
  have k4:(H2 114).gen=1:=by rw [hf2 114 (by omega)];exact g4
  have n4:(H2 114).mode= .live:=by rw [hf2 114 (by omega)];exact m4
  have r4:(H2 114).rows=[r]:=by rw [hf2 114 (by omega)];exact H4r
  clear hw on
  generalize qaN (qat n key val gone back rid job) i (qdv (qbs n.jobId) (qat n key val gone back rid job).list n.jobs[i])=q at *
  obtain ⟨m,acts⟩:=q
  unfold qnv at M2
  simp only [aNd,Nat.reduceMul,Nat.reduceAdd]at M2
  obtain ⟨A,a,b,c,d,X,Y1,Y2,Y3,Y4,Y5,hX⟩:=M2
  rcases hX with ⟨rfl,rfl⟩|⟨rfl,hX⟩
  ·simp -implicitDefEqProofs -dsimp +contextual (maxSteps:=9999999) (disch:=first | omega | simp only [go_sem]<;>omega | refine ib ?_;kernel_rfl) only [go_sem,seval,↓reduceIte]
   rw [qaD (C:=C1 g) Tryz.func166 rfl Tryz.results166 (show (C1 g).M.loc 166=_ from qe2.1) (by kernel_rfl)]
   simp -implicitDefEqProofs -dsimp +contextual (maxSteps:=9999999) (disch:=first | omega | simp only [go_sem]<;>omega | refine ib ?_;kernel_rfl) only [go_sem,seval,↓reduceIte,nl,Y1,Y2,Y3,Y4,Y5,k4,n4,hr,r4]
   rfl
  ·simp -implicitDefEqProofs -dsimp +contextual (maxSteps:=9999999) (disch:=first | omega | simp only [go_sem]<;>omega | refine ib ?_;kernel_rfl) only [go_sem,seval,↓reduceIte]
   rw [qaD (C:=C1 g) Tryz.func166 rfl Tryz.results166 (show (C1 g).M.loc 166=_ from qe2.1) (by kernel_rfl)]
   simp -implicitDefEqProofs -dsimp +contextual (maxSteps:=9999999) (disch:=first | omega | simp only [go_sem]<;>omega | refine ib ?_;kernel_rfl) only [go_sem,seval,↓reduceIte,nl,Y1,Y2,Y3,Y4,Y5,k4,n4,hr,r4,hX]
   rfl
theorem qAV (n:Nd) (key val:List UInt8) (gone:Bool) (back:En) (rid job:Int) (h:n.mid 90000) (hk:key.length≤9223372036854775807) (hc:0≤n.clock∧n.clock≤1099511627776) (he:qaK n key val gone=0) (hcop:qeo (qat n key val gone back rid job).jobs (qbs n.jobId)=(n.jobs.length:Int)) :
  fn (C1 (-2)) 109 [] [(aNd n),.str key,.str val,.bool gone,.agg [.str back.name,.int .u64 (back.id:Int),.int .i64 back.fr,.int .i64 back.un,.int .i64 back.ix,.str back.tag],.int .i64 rid,.int .i64 job]=qmy (qaN (qat n key val gone back rid job) n.jobs.length (qdv (qbs n.jobId) (qat n key val gone back rid job).list (qfC n (qcN n.items key val gone).2.1 back rid job))):=by
 obtain ⟨g,hg⟩:∃g:Int,g= -2:=⟨_,rfl⟩
 have nl:=qHL
 rw [←hg]at nl ⊢
 have on:True:=trivial
 have il:=h.il
 have jl:=h.jl
 have pu:=qFu n.items key val gone (by omega) hk
 have hb:qaK n key val gone=(qcN n.items key val gone).2.2:=by
  unfold qaK at he ⊢
  split at he
  ·omega
  ·rw [if_neg (by assumption)]
 have h8:¬8≤n.jobs.length:=by
  intro h8;unfold qaK at he;rw [if_pos h8]at he;omega
 rw [hb]at he
 clear hb
 have hmid:(qat n key val gone back rid job).mid 100000:=(qdR key val gone back rid job hk h).le (by omega)
 rw [qah (C:=C1 g) Tryz.func109 rfl rfl Tryz.results109 (show (C1 g).M.loc 109=_ from qpF.1) rfl rfl (by kernel_rfl)]
 simp -implicitDefEqProofs -dsimp +contextual (maxSteps:=9999999) (disch:=first | omega | simp only [go_sem]<;>omega | refine ib ?_;kernel_rfl) only [go_sem,seval,↓reduceIte,nl]
 refine qnB n (h.le (by omega)) g (by omega) _ ?_ _ _ fun H' W hfr=>?_
 ·intro o ho;repeat (first | rfl | rw [qac.set_ne _ _ (by omega)])
 obtain ⟨W1,W2,W3,W4,W5⟩:=W
 have g4:(H' 114).gen=1:=by rw [hfr 114 (by omega)];rfl
 have m4:(H' 114).mode= .live:=by rw [hfr 114 (by omega)];rfl
 obtain ⟨r,hr,H4r⟩:∃r:List AVal,r.length=22∧(H' 114).rows=[r]:=by rw [hfr 114 (by omega)];exact ⟨_,rfl,rfl⟩
 have h11:H' 111=⟨1,.live,6,[[.str back.name,.int .u64 (back.id:Int),.int .i64 back.fr,.int .i64 back.un,.int .i64 back.ix,.str back.tag]],false⟩:=by rw [hfr 111 (by omega)];rfl
 have h18:H' 118=⟨0,.dead,0,[],false⟩:=by rw [hfr 118 (by omega)];rfl
 have hx:=qAS n (qcN n.items key val gone).2.1 back rid job
 simp -implicitDefEqProofs -dsimp +contextual (maxSteps:=9999999) (disch:=first | omega | simp only [go_sem]<;>omega | refine ib ?_;kernel_rfl) only [go_sem,seval,↓reduceIte,nl,W1,W2,W3,W4,W5,pu,h11,h18,g4,m4,hr,H4r,h8,he,hx]
 clear hx
 have him:n.jobs.length<(qat n key val gone back rid job).jobs.length:=by simp [qat]
 have hmj:(qat n key val gone back rid job).jobs[n.jobs.length]=qfC n (qcN n.items key val gone).2.1 back rid job:=by simp [qat]
 refine qwJ g (qat n key val gone back rid job) (qbs n.jobId) n.jobs.length 2 (qfC n (qcN n.items key val gone).2.1 back rid job) him hmj hcop hmid rfl rfl rfl _ ?_ _ _ _ rfl ?_ ?_
 ·refine ⟨?_,W2,W3,rfl,W5⟩
  rw [qat];simp -implicitDefEqProofs -dsimp +contextual (maxSteps:=9999999) (disch:=first | omega | simp only [go_sem]<;>omega | refine ib ?_;kernel_rfl) only [go_sem,seval,↓reduceIte,List.length_append,List.length_singleton]
 ·intro H2 A X M2 A2 X2 hf2 hw
  obtain ⟨Y1,Y2,Y3,Y4,Y5⟩:=M2
  have k4:(H2 114).gen=1:=by rw [hf2 114 (by omega)];exact g4
  have n4:(H2 114).mode= .live:=by rw [hf2 114 (by omega)];exact m4
  have r4:(H2 114).rows=[r]:=by rw [hf2 114 (by omega)];exact H4r
  generalize qdv (qbs n.jobId) (qat n key val gone back rid job).list (qfC n (qcN n.items key val gone).2.1 back rid job)=q at *
  obtain ⟨j,acts⟩:=q
  have hmf:qaN (qat n key val gone back rid job) n.jobs.length (j,acts)=({ qat n key val gone back rid job with jobs:=(qat n key val gone back rid job).jobs.set n.jobs.length j },acts):=by unfold qaN;rw [if_pos hw]
  rw [hmf]
  clear hmf hw on
  generalize qat n key val gone back rid job=m at *
  obtain ⟨ga,rfl,ha⟩:=A2
  try simp only at Y1 Y4 ha X2
  rcases X2 with ⟨rfl,rfl⟩|⟨gx,rfl,hX⟩
  ·simp -implicitDefEqProofs -dsimp +contextual (maxSteps:=9999999) (disch:=first | omega | simp only [go_sem]<;>omega | refine ib ?_;kernel_rfl) only [go_sem,seval,↓reduceIte]
   rw [qaD (C:=C1 g) Tryz.func166 rfl Tryz.results166 (show (C1 g).M.loc 166=_ from qe2.1) (by kernel_rfl)]
   simp -implicitDefEqProofs -dsimp +contextual (maxSteps:=9999999) (disch:=first | omega | simp only [go_sem]<;>omega | refine ib ?_;kernel_rfl) only [go_sem,seval,↓reduceIte,nl,Y1,Y2,Y3,Y4,Y5,k4,n4,hr,r4,ha,qbH,him]
   rfl
  ·simp -implicitDefEqProofs -dsimp +contextual (maxSteps:=9999999) (disch:=first | omega | simp only [go_sem]<;>omega | refine ib ?_;kernel_rfl) only [go_sem,seval,↓reduceIte]
   rw [qaD (C:=C1 g) Tryz.func166 rfl Tryz.results166 (show (C1 g).M.loc 166=_ from qe2.1) (by kernel_rfl)]
   simp -implicitDefEqProofs -dsimp +contextual (maxSteps:=9999999) (disch:=first | omega | simp only [go_sem]<;>omega | refine ib ?_;kernel_rfl) only [go_sem,seval,↓reduceIte,nl,Y1,Y2,Y3,Y4,Y5,k4,n4,hr,r4,ha,hX,qbH,him]
   rfl
 ·intro H2 M2 hf2 hw
  have k4:(H2 114).gen=1:=by rw [hf2 114 (by omega)];exact g4
  have n4:(H2 114).mode= .live:=by rw [hf2 114 (by omega)];exact m4
  have r4:(H2 114).rows=[r]:=by rw [hf2 114 (by omega)];exact H4r
  clear hw on
  generalize qaN (qat n key val gone back rid job) n.jobs.length (qdv (qbs n.jobId) (qat n key val gone back rid job).list (qfC n (qcN n.items key val gone).2.1 back rid job))=q at *
  obtain ⟨m,acts⟩:=q
  unfold qnv at M2
  simp only [aNd,Nat.reduceMul,Nat.reduceAdd]at M2
  obtain ⟨A,a,b,c,d,X,Y1,Y2,Y3,Y4,Y5,hX⟩:=M2
  rcases hX with ⟨rfl,rfl⟩|⟨rfl,hX⟩
  ·simp -implicitDefEqProofs -dsimp +contextual (maxSteps:=9999999) (disch:=first | omega | simp only [go_sem]<;>omega | refine ib ?_;kernel_rfl) only [go_sem,seval,↓reduceIte]
   rw [qaD (C:=C1 g) Tryz.func166 rfl Tryz.results166 (show (C1 g).M.loc 166=_ from qe2.1) (by kernel_rfl)]
   simp -implicitDefEqProofs -dsimp +contextual (maxSteps:=9999999) (disch:=first | omega | simp only [go_sem]<;>omega | refine ib ?_;kernel_rfl) only [go_sem,seval,↓reduceIte,nl,Y1,Y2,Y3,Y4,Y5,k4,n4,hr,r4]
   rfl
  ·simp -implicitDefEqProofs -dsimp +contextual (maxSteps:=9999999) (disch:=first | omega | simp only [go_sem]<;>omega | refine ib ?_;kernel_rfl) only [go_sem,seval,↓reduceIte]
   rw [qaD (C:=C1 g) Tryz.func166 rfl Tryz.results166 (show (C1 g).M.loc 166=_ from qe2.1) (by kernel_rfl)]
   simp -implicitDefEqProofs -dsimp +contextual (maxSteps:=9999999) (disch:=first | omega | simp only [go_sem]<;>omega | refine ib ?_;kernel_rfl) only [go_sem,seval,↓reduceIte,nl,Y1,Y2,Y3,Y4,Y5,k4,n4,hr,r4,hX]
   rfl
def jId (j:Jb):Jb:={ jbZ with id:=j.id,kind:=j.kind }
def qHA (r:List AVal):Jb:=match r with | .int _ a :: .int _ b::_=>{ jbZ with id:=a,kind:=b } | _=>jbZ
def qAW (r:List AVal):It:=match r with | [.str k,.str v,.int _ n,.bool g]=>⟨k,v,n,g⟩|_=>qa6
def qE0 (v:AVal) (i:Nat):List (List AVal):=match v with | .agg cs=>(match cs[i]? with | some (.slice _ rows)=>rows | _=>[])|_=>[]
def qLC (v:AVal) (i:Nat):Int:=match v with | .agg cs=>(match cs[i]? with | some (.int _ n)=>n | _=>0)|_=>0
def ndZ:Nd:=⟨enZ,0,[],0,[],false,[],[],[],[],[],[],[],0,0,[],[]⟩
def ndA (v:AVal):Nd:={ ndZ with items:=(qE0 v 16).map qAW,jobs:=(qE0 v 17).map qHA,jobId:=qLC v 19 }
def gmM (ds:List AVal):Int:=match ds with | v :: .int _ id::_=>qeo (ndA v).jobs id | _=> -1
def gmB (ds:List AVal):Int:=match ds with
 | v :: .str k :: .str x :: .bool g::_=>if qaK (ndA v) k x g=0 then
   (if qeo (qat (ndA v) k x g enZ 0 0).jobs (qbs (ndA v).jobId)=((ndA v).jobs.length:Int) then -2 else qeo (qat (ndA v) k x g enZ 0 0).jobs (qbs (ndA v).jobId)) else -1
 | _=> -1
theorem qpI {α β:Type} (f:α→β) (q:β→Bool) (l:List α):qde q (l.map f)=qde (fun a=>q (f a)) l:=by
 unfold qde
 rw [List.findIdx_map,List.length_map]
 rfl
theorem qnt (f:Jb→Jb) (h1:∀j,(f j).id=j.id) (h2:∀j,(f j).kind=j.kind) (l:List Jb) (id:Int):qeo (l.map f) id=qeo l id:=by
 have e:qbW (l.map f) id=qbW l id:=by
  unfold qbW
  rw [qpI]
  congr 1
  funext j
  simp [qdW,h1]
 unfold qeo
 rw [e]
 rcases qch l id with ⟨i,hi,_,_,hf⟩|⟨_,hf⟩
 ·have e2:(qBM (l.map f) (qbW l id).toNat).kind=(qBM l (qbW l id).toNat).kind:=by
   rw [hf,Int.toNat_natCast,qdu hi,qdu (by simpa using hi),List.getElem_map,h2]
  rw [e2]
 ·rw [hf];simp
theorem qwM (l:List Jb):(l.map Jb.cs).map qHA=l.map jId:=by
 rw [List.map_map];rfl
theorem qsI (l:List It):(l.map It.cs).map qAW=l:=by
 rw [List.map_map]
 exact List.map_id l
theorem qE1 (n:Nd) (k x:List UInt8) (g:Bool) (back:En) (rid job:Int) (rest:List AVal):gmB (((aNd n)) :: .str k :: .str x :: .bool g::rest)=
  if qaK n k x g=0 then (if qeo (qat n k x g back rid job).jobs (qbs n.jobId)=(n.jobs.length:Int) then -2 else qeo (qat n k x g back rid job).jobs (qbs n.jobId)) else -1:=by
 have e0:ndA ((aNd n))={ ndZ with items:=n.items,jobs:=n.jobs.map jId,jobId:=n.jobId }:=by
  show ({ ndZ with items:=(n.items.map It.cs).map qAW,jobs:=(n.jobs.map Jb.cs).map qHA,jobId:=n.jobId }:Nd)=_
  rw [qsI,qwM]
 show (if qaK (ndA ((aNd n))) k x g=0 then _ else _)=_
 rw [e0]
 have e1:qaK { ndZ with items:=n.items,jobs:=n.jobs.map jId,jobId:=n.jobId } k x g=qaK n k x g:=by
  unfold qaK;simp
 rw [e1]
 have e2:qeo (qat { ndZ with items:=n.items,jobs:=n.jobs.map jId,jobId:=n.jobId } k x g enZ 0 0).jobs (qbs n.jobId)=qeo (qat n k x g back rid job).jobs (qbs n.jobId):=by
  rw [←qnt jId (fun _=>rfl) (fun _=>rfl),←qnt jId (fun _=>rfl) (fun _=>rfl) (qat n k x g back rid job).jobs]
  congr 1
  simp [qat,qfC,jId,jbZ]
 simp only [e2,List.length_map]
noncomputable def qAX:Own:=fun f=>if f=109 then some (fun ex ds=>fn (C1 (gmB ds)) f ex ds) else if f=999999 then some (fun ex ds=>fn (C1 (gmM ds)) f ex ds) else if f=203 then some (fun ex ds=>fn (C1 (gmM ds)) f ex ds)
 else if f∈[999999,999999,999999,999999,999999,243,135] then none else some (fun ex ds=>fn C f ex ds)
theorem qAY:qgN E qAX:=by
 intro f g ex ds q hf hg
 unfold qAX at hf
 split at hf
 ·simp only [aNd,Option.some.injEq]at hf
  subst hf
  exact qam qbb qmH hg
 ·split at hf
  ·simp only [aNd,Option.some.injEq]at hf
   subst hf
   exact qam qbb qmH hg
  ·split at hf
   ·simp only [aNd,Option.some.injEq]at hf
    subst hf
    exact qam qbb qmH hg
   ·split at hf
    ·cases hf
    ·simp only [aNd,Option.some.injEq]at hf
     subst hf
     exact qam qbb qsV hg
noncomputable def C2:Cf:=⟨E,M,qAX⟩
@[go_sem] theorem qNb:C2.E=E:=rfl
@[go_sem] theorem qNc:C2.M=M:=rfl
theorem qHB (f:FuncId) (h1:f≠109) (h2:f≠999999) (h3:f≠203) (h4:f∉[999999,999999,999999,999999,999999,243,135]) (ex ds):fn C2 f ex ds=fn C f ex ds:=
 qbC (g:=fun ex ds=>fn C f ex ds) (by show qAX f=_;unfold qAX;rw [if_neg h1,if_neg h2,if_neg h3,if_neg h4]) ex ds
theorem qE2 (n:Nd) (key val:List UInt8) (gone:Bool) (back:En) (rid job:Int) (h:n.mid 90000) (hk:key.length≤9223372036854775807) (hc:0≤n.clock∧n.clock≤1099511627776) :
  fn C2 109 [] [(aNd n),.str key,.str val,.bool gone,.agg [.str back.name,.int .u64 (back.id:Int),.int .i64 back.fr,.int .i64 back.un,.int .i64 back.ix,.str back.tag],.int .i64 rid,.int .i64 job]=qmy (qdX n key val gone back rid job):=by
 rw [qbC (g:=fun ex ds=>fn (C1 (gmB ds)) 109 ex ds) (by show qAX 109=_;unfold qAX;rw [if_pos rfl])]
 rw [qE1 n key val gone back rid job]
 unfold qdX
 by_cases he:qaK n key val gone=0
 ·rw [if_pos he,if_pos he]
  have hlen:(qat n key val gone back rid job).jobs.length=n.jobs.length+1:=by simp [qat]
  rcases qh8 (qat n key val gone back rid job).jobs (qbs n.jobId)with ⟨i,hi,hc1⟩|hc1
  ·rw [qns hi hc1,hc1]
   by_cases hl:i=n.jobs.length
   ·subst hl
    rw [if_pos rfl,qAV n key val gone back rid job h hk hc he hc1]
    have e:(qat n key val gone back rid job).jobs[n.jobs.length]=qfC n (qcN n.items key val gone).2.1 back rid job:=by simp [qat]
    rw [e]
   ·have hi':i<n.jobs.length:=by omega
    rw [if_neg (by omega),qAU n key val gone back rid job h hk hc he i hi' hc1]
    have e:(qat n key val gone back rid job).jobs[i]=n.jobs[i]:=List.getElem_append_left hi'
    rw [e]
  ·rw [qh9 hc1,hc1,if_neg (by omega)]
   exact qAT n key val gone back rid job h hk hc he hc1
 ·rw [if_neg he,if_neg he]
  unfold qb6
  split
  ·rename_i hj;subst hj;exact qwK n key val gone back rid 0 h hk hc he rfl
  ·rename_i hj;exact qwL n key val gone back rid job h hk hc he hj
def qHC (f:FuncId):Bool:=decide (f≠109)&&decide (f≠999999)&&decide (f≠203)&&decide (f∉[999999,999999,999999,999999,999999,243,135])
theorem qsJ (f:FuncId) (h:qHC f=true) (ex ds):fn C2 f ex ds=fn C f ex ds:=by
 simp only [qHC,Bool.and_eq_true,decide_eq_true_eq]at h
 exact qHB f h.1.1.1 h.1.1.2 h.1.2 h.2 ex ds
def qsK:Pr:=⟨⟨[],0,0,0,0,[]⟩,0,0⟩
def qds (a x b:Nat):Bool:=!decide (x=a)&&(decide (a=b)|| decide (qa7 a x<qa7 a b))
theorem qpJ (a x b:Nat) (ha:a≤18446744073709551615) (hx:x≤18446744073709551615) (hb:b≤18446744073709551615):qds a x b=if a=b then !decide (x=a) else (qcf a x b&&!decide (x=b)):=by
 unfold qds qcf qa7
 by_cases h:a=b
 ·subst h;simp
 ·rw [if_neg h,Bool.eq_iff_iff]
  simp only [Bool.and_eq_true,Bool.or_eq_true,Bool.not_eq_true',decide_eq_false_iff_not,decide_eq_true_eq,h,false_or]
  omega
@[go_sem] theorem qNd (a b:Nat) (ha:a≤18446744073709551615) (hb:b≤18446744073709551615):fn C 101 [] [.int .u64 (a:Int),.int .u64 (b:Int)]=some (.int .u64 (qa7 a b:Int),[]):=by
 rw [qaa Tryz.func101 rfl rfl Tryz.results101 qDa.1 rfl rfl (by kernel_rfl)]
 by_cases h:a≤b
 ·have e:IntKind.u64.wrap ((b:Int) - a)=((qa7 a b:Nat):Int):=by rw [IntKind.wrap_u64,qa7];omega
  simp -implicitDefEqProofs -dsimp +contextual (maxSteps:=9999999) (disch:=first | omega | simp only [go_sem]<;>omega | refine ib ?_;kernel_rfl) only [go_sem,seval,↓reduceIte,h,e]
  rw [show b - a=qa7 a b by unfold qa7;omega]
 ·have e1:IntKind.u64.wrap (18446744073709551615 - (a:Int))=((18446744073709551615 - a:Nat):Int):=by rw [IntKind.wrap_u64];omega
  have e2:IntKind.u64.wrap (((18446744073709551615 - a+b:Nat):Int))=((18446744073709551615 - a+b:Nat):Int):=by rw [IntKind.wrap_u64];omega
  have e3:IntKind.u64.wrap (((18446744073709551615 - a+b+1:Nat):Int))=((qa7 a b:Nat):Int):=by rw [IntKind.wrap_u64,qa7];omega
  simp -implicitDefEqProofs -dsimp +contextual (maxSteps:=9999999) (disch:=first | omega | simp only [go_sem]<;>omega | refine ib ?_;kernel_rfl) only [go_sem,seval,↓reduceIte,h,e1,e2,e3]
@[go_sem] theorem qLD (a x b : Nat) (ha : a ≤ 18446744073709551615) (hx : x ≤ 18446744073709551615) (hb : b ≤ 18446744073709551615) : fn C 228 [] [.int .u64 (a : Int), .int .u64 (x : Int), .int .u64 (b : Int)] = some (.bool (qds a x b), []) := by
  rw [qaa Tryz.func228 rfl rfl Tryz.results228 qEe.1 rfl rfl (by kernel_rfl)]
  simp -implicitDefEqProofs -dsimp +contextual (maxSteps := 9999999) (disch := first | omega | simp only [go_sem] <;> omega | refine ib ?_; kernel_rfl) only [go_sem, seval, ↓reduceIte]
  (repeat' (refine qae (fun _ => ?_) (fun _ => ?_)))
  all_goals exact qas (by simp [qds, *] <;> omega)
@[go_sem] theorem qNe (a x b:Nat) (ha:a≤18446744073709551615) (hx:x≤18446744073709551615) (hb:b≤18446744073709551615):fn C 177 [] [.int .u64 (a:Int),.int .u64 (x:Int),.int .u64 (b:Int)]=some (.bool (qds a x b),[]):=by
 rw [qaa Tryz.func177 rfl rfl Tryz.results177 qDO.1 rfl rfl (by kernel_rfl)]
 rw [qpJ a x b ha hx hb]
 by_cases h:a=b
 ·simp -implicitDefEqProofs -dsimp +contextual (maxSteps:=9999999) (disch:=first | omega | simp only [go_sem]<;>omega | refine ib ?_;kernel_rfl) only [go_sem,seval,↓reduceIte,h]
 ·simp -implicitDefEqProofs -dsimp +contextual (maxSteps:=9999999) (disch:=first | omega | simp only [go_sem]<;>omega | refine ib ?_;kernel_rfl) only [go_sem,seval,↓reduceIte,h]
  (repeat' (refine qae (fun _=>?_) (fun _=>?_)))
  all_goals exact qas (by simp [*]<;>omega)
end Go.Proofs.YtnpkhdjgedeppaaGreatDoor
namespace Go.Proofs.YtnpkhdjgedeppaaGreatDoor
set_option maxHeartbeats 64000000
open Go.Am
set_option linter.unusedSimpArgs false
set_option linter.unusedVariables false
set_option maxRecDepth 100000
attribute [local irreducible] qa7
def qex (key:Nat) (b:En) (p:Pr):En:=if qa7 key p.e.id<qa7 key b.id then p.e else b
def qbE (me:En) (l:List Pr) (key:Nat):En:=l.foldl (qex key) me
theorem qgT (me:En) (l:List Pr) (key:Nat):qbE me l key=l.foldl (qex key) me:=rfl
theorem qgU {α β:Type} (f:β→α→β) (b:β) (l:List α) (i:Nat) (h:i<l.length):(l.take (i+1)).foldl f b=f ((l.take i).foldl f b) l[i]:=by
 rw [List.take_succ_eq_append_getElem h,List.foldl_append];rfl
theorem qku (me:En) (l:List Pr) (key i:Nat) (h:i<l.length):(l.take (i+1)).foldl (qex key) me=qex key ((l.take i).foldl (qex key) me) l[i]:=qgU (qex key) me l i h
theorem qAZ (key:Nat) (l:List Pr) (hp:∀p∈l,p.e.id≤18446744073709551615) (me:En) (hm:me.id≤18446744073709551615):(l.foldl (qex key) me).id≤18446744073709551615:=by
 induction l generalizing me with
 | nil=>exact hm
 | cons p l ih=>
  refine ih (fun q hq=>hp q (List.mem_cons_of_mem _ hq)) _ ?_
  unfold qex
  split
  ·exact hp p (List.mem_cons_self ..)
  ·exact hm
@[go_sem] theorem qJA (me:En) (l:List Pr) (key:Nat) (hk:key≤18446744073709551615) (hm:me.id≤18446744073709551615) (hl:l.length≤9223372036854775807) (hp:∀p∈l,p.e.id≤18446744073709551615):fn C 128 [] [.agg [.str me.name,.int .u64 (me.id:Int),.int .i64 me.fr,.int .i64 me.un,.int .i64 me.ix,.str me.tag],.slice 8 (l.map Pr.cs),.int .u64 (key:Int)]=some (.agg [.str (qbE me l key).name,.int .u64 ((qbE me l key).id:Int),.int .i64 (qbE me l key).fr,.int .i64 (qbE me l key).un,.int .i64 (qbE me l key).ix,.str (qbE me l key).tag],[]):=by
 rw [qaa Tryz.func128 rfl rfl Tryz.results128 qDr.1 rfl rfl (by kernel_rfl)]
 rw [qgT]
 simp -implicitDefEqProofs -dsimp +contextual (maxSteps:=9999999) (disch:=first | omega | simp only [go_sem]<;>omega | refine ib ?_;kernel_rfl) only [go_sem,seval,↓reduceIte]
 refine qeb l.length (fun i f H=>f 2= .int .u64 (key:Int)∧f 6= .ptr 106 1 0 0∧f 7= .ptr 107 1 0 0∧f 11= .slice 8 (l.map Pr.cs)∧f 12= .int .i64 l.length∧f 13= .int .i64 (i:Nat)∧H 107=⟨1,.live,6,[((l.take i).foldl (qex key) me).cs],false⟩∧(H 106).gen=1∧(H 106).mode= .live∧(∃r:List AVal,r.length=6∧(H 106).rows=[r])) ?_ ?_ (by exact ⟨rfl,rfl,rfl,rfl,rfl,rfl,rfl,rfl,rfl,⟨_,rfl,rfl⟩⟩)
 ·rintro i f H hi ⟨f2,f6,f7,f11,f12,f13,H7,H6g,H6m,H6⟩ ih
  have row:=qda l i hi
  have hb:=qku me l key i hi
  have h1:=hp _ (List.getElem_mem hi)
  have h2:=qAZ key (l.take i) (fun q hq=>hp q (List.mem_of_mem_take hq)) me hm
  generalize (l.take i).foldl (qex key) me=b at *
  simp -implicitDefEqProofs -dsimp +contextual (maxSteps:=9999999) (disch:=first | omega | simp only [go_sem]<;>omega | refine ib ?_;kernel_rfl) only [go_sem,seval,↓reduceIte,f2,f6,f7,f11,f12,f13,H7,hi,row,h1,h2]
  (repeat' (refine qae (fun _=>?_) (fun _=>?_)))
  ·rename_i hd
   refine ih _ _ ⟨f2,f6,f7,f11,f12,rfl,?_,by simpa [qac.set]using H6g,by simpa [qac.set]using H6m,by simpa [qac.set]using H6⟩
   rw [hb,qex,if_pos hd];rfl
  ·rename_i hd
   refine ih _ _ ⟨f2,f6,f7,f11,f12,rfl,?_,by simpa [qac.set]using H6g,by simpa [qac.set]using H6m,by simpa [qac.set]using H6⟩
   rw [hb,qex,if_neg hd];simp [qac.set,H7]
 ·rintro f H ⟨f2,f6,f7,f11,f12,f13,H7,H6g,H6m,r,hr,H6⟩
  rw [List.take_length]at H7
  simp -implicitDefEqProofs -dsimp +contextual (maxSteps:=9999999) (disch:=first | omega | simp only [go_sem]<;>omega | refine ib ?_;kernel_rfl) only [go_sem,seval,↓reduceIte,f2,f6,f7,f11,f12,f13,H7,H6g,H6m,H6,hr]
end Go.Proofs.YtnpkhdjgedeppaaGreatDoor
namespace Go.Proofs.YtnpkhdjgedeppaaGreatDoor
set_option maxHeartbeats 64000000
open Go.Am
set_option linter.unusedSimpArgs false
set_option linter.unusedVariables false
set_option maxRecDepth 100000
def qtI (k:List UInt8):Nat:=idB (qnY++k)
end Go.Proofs.YtnpkhdjgedeppaaGreatDoor
namespace Go.Proofs.YtnpkhdjgedeppaaGreatDoor
set_option maxHeartbeats 64000000
open Go.Am
set_option linter.unusedSimpArgs false
set_option linter.unusedVariables false
set_option maxRecDepth 100000
attribute [local irreducible] qa7 idB qdF
end Go.Proofs.YtnpkhdjgedeppaaGreatDoor
namespace Go.Proofs.YtnpkhdjgedeppaaGreatDoor
set_option maxHeartbeats 64000000
open Go.Am
set_option linter.unusedSimpArgs false
set_option linter.unusedVariables false
set_option maxRecDepth 100000
noncomputable def qLE:Own:=fun f=>if f∈[14,16,27,23,25,20,12,999999,999999,3,4] then none else some (fun ex ds=>fn C2 f ex ds)
noncomputable def M4:Mds:={ M with inls:=[(69,60000),(149,80000),(70,100000),(71,120000),(105,140000),(91,160000),(94,200000),(92,220000),(93,240000),(103,260000),(104,280000)] }
noncomputable def C4:Cf:=⟨E,M4,qLE⟩
@[go_sem] theorem qNf:C4.E=E:=rfl
@[go_sem] theorem qNg:C4.M=M4:=rfl
@[go_sem] theorem qJB:M4.par=M.par:=Eq.trans rfl rfl
@[go_sem] theorem qJC:M4.res=M.res:=Eq.trans rfl rfl
@[go_sem] theorem qJD:M4.loc=M.loc:=Eq.trans rfl rfl
@[go_sem] theorem qLF:M4.nl=M.nl:=Eq.trans rfl rfl
@[go_sem] theorem qJE:M4.cur=[]:=Eq.trans rfl rfl
@[go_sem] theorem qHD:M4.base=0:=Eq.trans rfl rfl
@[go_sem] theorem qLG:M4.gh=none:=Eq.trans rfl rfl
@[go_sem] theorem qHE:M4.inls=[(69,60000),(149,80000),(70,100000),(71,120000),(105,140000),(91,160000),(94,200000),(92,220000),(93,240000),(103,260000),(104,280000)]:=Eq.trans rfl rfl
@[go_sem] theorem qLH:M.nl 69=[]:=Eq.trans rfl rfl
@[go_sem] theorem qHF:M.nl 149=[]:=Eq.trans rfl rfl
@[go_sem] theorem qHG:M.nl 70=[]:=Eq.trans rfl rfl
@[go_sem] theorem qHH:M.nl 71=[]:=Eq.trans rfl rfl
@[go_sem] theorem qE3:M.nl 105=[]:=Eq.trans rfl rfl
@[go_sem] theorem qHI:M.nl 91=[]:=Eq.trans rfl rfl
@[go_sem] theorem qGf:M.nl 103=[]:=Eq.trans rfl rfl
@[go_sem] theorem qE4:M.nl 93=[]:=Eq.trans rfl rfl
@[go_sem] theorem qE5:M.nl 104=[]:=Eq.trans rfl rfl
structure WorkC (H:qac) (n:Nd) (id:Int) (J:AVal):Prop where
 w:H 60111=⟨1,.live,25,[[.str n.me.name,.int .u64 (n.me.id:Int),.int .i64 n.me.fr,.int .i64 n.me.un,.int .i64 n.me.ix,.str n.me.tag,.int .i64 n.clock,.str n.psk,.int .i64 n.gateI,.str n.gateK,.bool n.ready,.slice 8 (n.pred.map Pr.cs),.slice 8 (n.list.map Pr.cs),.slice 9 (n.fingers.map Fg.cs),.osl 60109015 1 0 n.sessions.length,.osl 60109016 1 0 n.pends.length,.slice 4 (n.items.map It.cs),.osl 60109018 1 0 n.jobs.length,.int .i64 n.rid,.int .i64 n.jobId,.slice 1 (n.draws.map qaw),.osl 60109022 1 0 n.results.length,J,.sc (.slice none 0 0),.fn (.func 149) [] [.ptr 60106 1 0 0,.ptr 60103 1 0 0]]],false⟩
 v:H 60106=⟨1,.live,1,[[.ptr 60111 1 0 0]],false⟩
 d:H 60103=⟨1,.live,1,[[.int .i64 id]],false⟩
 s:H 60109015=⟨1,.live,20,n.sessions.map Se.cs,false⟩
 p:H 60109016=⟨1,.live,23,n.pends.map Pd.cs,false⟩
 j:H 60109018=⟨1,.live,29,n.jobs.map Jb.cs,false⟩
 r:H 60109022=⟨1,.live,8,n.results.map Rs.cs,false⟩
def qLI (q:Nd×List Ac) (H:qac):Prop:=∃(a b c d ga gb gc gd:Nat) (J X F:AVal),1000000≤a∧1000000≤b∧1000000≤c∧1000000≤d∧
 H 60111=⟨1,.live,25,[[.str q.1.me.name,.int .u64 (q.1.me.id:Int),.int .i64 q.1.me.fr,.int .i64 q.1.me.un,.int .i64 q.1.me.ix,.str q.1.me.tag,.int .i64 q.1.clock,.str q.1.psk,.int .i64 q.1.gateI,.str q.1.gateK,.bool q.1.ready,.slice 8 (q.1.pred.map Pr.cs),.slice 8 (q.1.list.map Pr.cs),.slice 9 (q.1.fingers.map Fg.cs),.osl a ga 0 q.1.sessions.length,.osl b gb 0 q.1.pends.length,.slice 4 (q.1.items.map It.cs),.osl c gc 0 q.1.jobs.length,.int .i64 q.1.rid,.int .i64 q.1.jobId,.slice 1 (q.1.draws.map qaw),.osl d gd 0 q.1.results.length,J,X,F]],false⟩∧
 H a=⟨ga,.live,20,q.1.sessions.map Se.cs,false⟩∧H b=⟨gb,.live,23,q.1.pends.map Pd.cs,false⟩∧H c=⟨gc,.live,29,q.1.jobs.map Jb.cs,false⟩∧H d=⟨gd,.live,8,q.1.results.map Rs.cs,false⟩∧
 ((X= .sc (.slice none 0 0)∧q.2=[])∨(∃x gx:Nat,X= .osl x gx 0 q.2.length∧80000≤x∧¬x=120102∧H x=⟨gx,.live,20,q.2.map Ac.cs,false⟩))
theorem WorkC.fin {H:qac} {n:Nd} {id:Int} {J:AVal} (h:WorkC H n id J):qLI (n,[]) H:=
 ⟨_,_,_,_,_,_,_,_,_,_,_,by omega,by omega,by omega,by omega,h.w,h.s,h.p,h.j,h.r,.inl ⟨rfl,rfl⟩⟩
end Go.Proofs.YtnpkhdjgedeppaaGreatDoor
namespace Go.Proofs.YtnpkhdjgedeppaaGreatDoor
set_option maxHeartbeats 64000000
open Go.Am
set_option linter.unusedSimpArgs false
set_option linter.unusedVariables false
set_option maxRecDepth 100000
attribute [local irreducible] qa7 idB qdF
structure CliK (n:Nd):Prop where
 md:n.mid 80000
 me:n.me.id≤18446744073709551615
 li:∀p∈n.list,p.e.id≤18446744073709551615
 clock:0≤n.clock∧n.clock≤1099511627776
 jk:∀j∈n.jobs,j.key.length≤10000∧j.val.length≤10000
 ji:∀j∈n.jobs,-9223372036854775808≤j.tries∧ -9223372036854775808≤j.hops
theorem set_cs (l:List Jb) (i:Nat) (j:Jb):(l.map Jb.cs).set i [.int .i64 j.id,.int .i64 j.kind,.int .i64 j.phase,.int .i64 j.hops,.int .i64 j.tries,.int .i64 j.til,.str j.key,.str j.val,.str j.owner.name,.int .u64 (j.owner.id:Int),.int .i64 j.owner.fr,.int .i64 j.owner.un,.int .i64 j.owner.ix,.str j.owner.tag,.str j.item.k,.str j.item.v,.int .i64 j.item.n,.bool j.item.g,.int .i64 j.acks,.int .i64 j.waits,.slice 1 (j.asked.map qaG),.str j.back.name,.int .u64 (j.back.id:Int),.int .i64 j.back.fr,.int .i64 j.back.un,.int .i64 j.back.ix,.str j.back.tag,.int .i64 j.backRid,.int .i64 j.backJob]=(l.set i j).map Jb.cs:=by rw [List.map_set];rfl
theorem WorkC.set {H H':qac} {n:Nd} {id:Int} {J:AVal} (h:WorkC H n id J) (i:Nat) (j':Jb) (hj:H' 60109018=⟨1,.live,29,(n.jobs.set i j').map Jb.cs,false⟩) (hf:∀o,o≠60109018→H' o=H o):WorkC H' { n with jobs:=n.jobs.set i j' } id J:=
 ⟨by rw [hf _ (by omega),h.w];simp only [List.length_set],(hf _ (by omega)).trans h.v,(hf _ (by omega)).trans h.d,(hf _ (by omega)).trans h.s,(hf _ (by omega)).trans h.p,hj,(hf _ (by omega)).trans h.r⟩
end Go.Proofs.YtnpkhdjgedeppaaGreatDoor
namespace Go.Proofs.YtnpkhdjgedeppaaGreatDoor
set_option maxHeartbeats 64000000
open Go.Am
set_option linter.unusedSimpArgs false
set_option linter.unusedVariables false
set_option maxRecDepth 100000
def qGg (f:Nat→AVal) (H:qac) (t o st:Nat) (r:List (List AVal)):Prop:=∃g,f t= .osl o g 0 r.length∧H o=⟨g,.live,st,r,false⟩
theorem qcz {α β:Type} (f:α→β) (l:List α) (i:Nat) (h:i<l.length):(l.take (i+1)).map f=(l.take i).map f++[f l[i]]:=by
 rw [List.take_succ_eq_append_getElem h,List.map_append];rfl
def qwN (p:Pr):List AVal:=p.e.cs
theorem qnu (l:List Pr):l.map qwN=(l.map Pr.e).map En.cs:=by rw [List.map_map];rfl
@[go_sem] theorem qHJ (l:List Pr) (hl:l.length≤1000000):fn C 120 [] [.slice 8 (l.map Pr.cs)]=some (.usl 6 ((l.map Pr.e).map En.cs),[]):=by
 rw [qah Tryz.func120 rfl rfl Tryz.results120 qDj.1 rfl rfl (by kernel_rfl)]
 simp -implicitDefEqProofs -dsimp +contextual (maxSteps:=9999999) (disch:=first | omega | simp only [go_sem]<;>omega | refine ib ?_;kernel_rfl) only [go_sem,seval,↓reduceIte]
 refine qeb l.length (fun i f H=>f 6= .slice 8 (l.map Pr.cs)∧f 7= .int .i64 l.length∧f 8= .int .i64 (i:Nat)∧qGg f H 3 103 6 ((l.take i).map qwN)) ?_ ?_ (by exact ⟨rfl,rfl,rfl,⟨_,rfl,rfl⟩⟩)
 ·rintro i f H hi ⟨f6,f7,f8,g,f3,hA⟩ ih
  have hm:=qcz qwN l i hi
  have row:=qda l i hi
  have hn:((l.take i).map qwN).length≤1000000:=by simp;omega
  generalize (l.take i).map qwN=r at *
  simp -implicitDefEqProofs -dsimp +contextual (maxSteps:=9999999) (disch:=first | omega | simp only [go_sem]<;>omega | refine ib ?_;kernel_rfl) only [go_sem,seval,↓reduceIte,f6,f7,f8,f3,hA,hi,row]
  exact ih _ _ ⟨f6,f7,rfl,by rw [hm];exact ⟨_,by rw [List.length_append];rfl,rfl⟩⟩
 ·rintro f H ⟨f6,f7,f8,g,f3,hA⟩
  rw [List.take_length,qnu]at f3 hA
  simp -implicitDefEqProofs -dsimp +contextual (maxSteps:=9999999) (disch:=first | omega | simp only [go_sem]<;>omega | refine ib ?_;kernel_rfl) only [go_sem,seval,↓reduceIte,f6,f7,f8,f3,hA]
@[go_sem] theorem qLJ (l:List Pr) (hl:l.length≤1000000):fn C 119 [] [.slice 8 (l.map Pr.cs),.int .i64 1]=some (.usl 6 (((l.take 1).map Pr.e).map En.cs),[]):=by
 rw [qaa Tryz.func119 rfl rfl Tryz.results119 qDi.1 rfl rfl (by kernel_rfl)]
 cases l with
 | nil=>
  have e:fn C 120 [] [.slice 8 []]=some (.usl 6 [],[]):=qHJ [] (by simp)
  simp -implicitDefEqProofs -dsimp +contextual (maxSteps:=9999999) (disch:=first | omega | simp only [go_sem]<;>omega | refine ib ?_;kernel_rfl) only [go_sem,seval,↓reduceIte,e]
 | cons p l=>
  have e:fn C 120 [] [.slice 8 [[.str p.e.name,.int .u64 (p.e.id:Int),.int .i64 p.e.fr,.int .i64 p.e.un,.int .i64 p.e.ix,.str p.e.tag,.int .i64 p.since,.int .i64 p.under]]]=some (.usl 6 [[.str p.e.name,.int .u64 (p.e.id:Int),.int .i64 p.e.fr,.int .i64 p.e.un,.int .i64 p.e.ix,.str p.e.tag]],[]):=qHJ [p] (by simp)
  have e1:¬l.length+1<1:=by omega
  have e2:¬(0:Int)>1:=by decide
  simp -implicitDefEqProofs -dsimp +contextual (maxSteps:=9999999) (disch:=first | omega | simp only [go_sem]<;>omega | refine ib ?_;kernel_rfl) only [go_sem,seval,↓reduceIte,e,e1,e2]
@[go_sem] theorem qLK (l:List Pr) (hl:l.length≤1000000):fn C 121 [] [.slice 8 (l.map Pr.cs)]=some (.slice 6 ((l.map Pr.e).map En.cs),[]):=by
 rw [qah Tryz.func121 rfl rfl Tryz.results121 qDk.1 rfl rfl (by kernel_rfl)]
 simp -implicitDefEqProofs -dsimp +contextual (maxSteps:=9999999) (disch:=first | omega | simp only [go_sem]<;>omega | refine ib ?_;kernel_rfl) only [go_sem,seval,↓reduceIte]
 refine qeb l.length (fun i f H=>f 0= .slice 8 (l.map Pr.cs)∧f 4= .int .i64 (i:Nat)∧qGg f H 3 103 6 ((l.take i).map qwN)) ?_ ?_ (by exact ⟨rfl,rfl,⟨_,rfl,rfl⟩⟩)
 ·rintro i f H hi ⟨f0,f4,g,f3,hA⟩ ih
  have hm:=qcz qwN l i hi
  have row:=qda l i hi
  have hn:((l.take i).map qwN).length≤1000000:=by simp;omega
  generalize (l.take i).map qwN=r at *
  simp -implicitDefEqProofs -dsimp +contextual (maxSteps:=9999999) (disch:=first | omega | simp only [go_sem]<;>omega | refine ib ?_;kernel_rfl) only [go_sem,seval,↓reduceIte,f0,f4,f3,hA,hi,row]
  exact ih _ _ ⟨f0,rfl,by rw [hm];exact ⟨_,by rw [List.length_append];rfl,rfl⟩⟩
 ·rintro f H ⟨f0,f4,g,f3,hA⟩
  rw [List.take_length,qnu]at f3 hA
  simp -implicitDefEqProofs -dsimp +contextual (maxSteps:=9999999) (disch:=first | omega | simp only [go_sem]<;>omega | refine ib ?_;kernel_rfl) only [go_sem,seval,↓reduceIte,f0,f4,f3,hA]
end Go.Proofs.YtnpkhdjgedeppaaGreatDoor
namespace Go.Proofs.YtnpkhdjgedeppaaGreatDoor
set_option maxHeartbeats 64000000
open Go.Am
set_option linter.unusedSimpArgs false
set_option linter.unusedVariables false
set_option maxRecDepth 100000
attribute [local irreducible] qa7
def qbc (l:List Pr) (name:List UInt8):List Pr:=l.filter fun p=>!decide (p.e.name=name)
def qgV (l:List Fg) (name:List UInt8):List Fg:=l.map fun x=>if x.p.e.name=name then { x with p:=qsK } else x
theorem qsL (l:List En) (i:Nat) (h:i<l.length):(l.map En.cs)[i]?=some [.str l[i].name,.int .u64 (l[i].id:Int),.int .i64 l[i].fr,.int .i64 l[i].un,.int .i64 l[i].ix,.str l[i].tag]:=by
 rw [List.getElem?_map,List.getElem?_eq_getElem h];rfl
@[go_sem] theorem qJF (me:En) (l:List Pr) (key:Nat) (hk:key≤18446744073709551615) (hm:me.id≤18446744073709551615) (hl:l.length≤1000000) (hp:∀p∈l,p.e.id≤18446744073709551615):fn C 113 [] [.agg [.str me.name,.int .u64 (me.id:Int),.int .i64 me.fr,.int .i64 me.un,.int .i64 me.ix,.str me.tag],.slice 8 (l.map Pr.cs),.int .u64 (key:Int)]=some (.agg [.str (qbE me l key).name,.int .u64 ((qbE me l key).id:Int),.int .i64 (qbE me l key).fr,.int .i64 (qbE me l key).un,.int .i64 (qbE me l key).ix,.str (qbE me l key).tag],[]):=by
 rw [qaa Tryz.func113 rfl rfl Tryz.results113 qDd.1 rfl rfl (by kernel_rfl)]
 rw [qgT]
 simp -implicitDefEqProofs -dsimp +contextual (maxSteps:=9999999) (disch:=first | omega | simp only [go_sem]<;>omega | refine ib ?_;kernel_rfl) only [go_sem,seval,↓reduceIte]
 obtain ⟨all,hall⟩:∃all:List En,all=me::l.map Pr.e:=⟨_,rfl⟩
 have hrows:[.str me.name,.int .u64 (me.id:Int),.int .i64 me.fr,.int .i64 me.un,.int .i64 me.ix,.str me.tag]::(l.map Pr.e).map En.cs=all.map En.cs:=by rw [hall];rfl
 have hn:all.length=l.length+1:=by simp [hall]
 have hid:∀e∈all,e.id≤18446744073709551615:=by
  intro e he
  rw [hall]at he
  rcases List.mem_cons.1 he with rfl | he
  ·exact hm
  ·obtain ⟨p,hp',rfl⟩:=List.mem_map.1 he
   exact hp p hp'
 have hat:∀(i:Nat) (h:i+1<all.length),all[i+1]=(l[i]'(by omega)).e:=by
  intro i h;subst hall;simp
 have h0:all[0]'(by omega)=me:=by subst hall;rfl
 rw [hrows]
 refine qeb all.length (fun i f H=>f 2= .int .u64 (key:Int)∧f 6= .ptr 106 1 0 0∧f 7= .osl 111 2 0 all.length∧f 9= .int .i64 (i:Nat)∧H 111=⟨2,.live,6,all.map En.cs,false⟩∧(H 106).gen=1∧(H 106).mode= .live∧(∃r:List AVal,r.length=6∧(H 106).rows=[r])∧∃(j:Nat) (hj:j<all.length),f 8= .int .i64 (j:Nat)∧all[j]=(l.take (i - 1)).foldl (qex key) me) ?_ ?_ ?_
 ·rintro i f H hi ⟨f2,f6,f7,f9,hH,H6g,H6m,H6,j,hj,f8,hb⟩ ih
  have ri:=qsL all i hi
  have rj:=qsL all j hj
  have i1:=hid _ (List.getElem_mem hi)
  have i2:=hid _ (List.getElem_mem hj)
  have next:(if qa7 key all[i].id<qa7 key all[j].id then all[i] else all[j])=(l.take (i+1 - 1)).foldl (qex key) me:=by
   cases i with
   | zero=>
    rw [h0,hb]
    simp
   | succ i=>
    have:=hat i hi
    rw [Nat.add_sub_cancel,qku me l key i (by omega),hb,Nat.add_sub_cancel,this]
    rfl
  simp -implicitDefEqProofs -dsimp +contextual (maxSteps:=9999999) (disch:=first | omega | simp only [go_sem]<;>omega | refine ib ?_;kernel_rfl) only [go_sem,seval,↓reduceIte,f2,f6,f7,f8,f9,hH,hi,hj,ri,rj,i1,i2]
  (repeat' (refine qae (fun _=>?_) (fun _=>?_)))
  ·rename_i hd
   rw [if_pos hd]at next
   exact ih _ _ ⟨f2,f6,f7,rfl,hH,H6g,H6m,H6,i,hi,rfl,next⟩
  ·rename_i hd
   rw [if_neg hd]at next
   exact ih _ _ ⟨f2,f6,f7,rfl,hH,H6g,H6m,H6,j,hj,f8,next⟩
 ·rintro f H ⟨f2,f6,f7,f9,hH,H6g,H6m,⟨r,hr,H6⟩,j,hj,f8,hb⟩
  have rj:=qsL all j hj
  rw [hn,Nat.add_sub_cancel,List.take_length]at hb
  rw [hb]at rj
  simp -implicitDefEqProofs -dsimp +contextual (maxSteps:=9999999) (disch:=first | omega | simp only [go_sem]<;>omega | refine ib ?_;kernel_rfl) only [go_sem,seval,↓reduceIte,f2,f6,f7,f8,f9,hH,hj,rj,H6g,H6m,H6,hr]
 ·refine ⟨rfl,rfl,?_,rfl,rfl,rfl,rfl,⟨_,rfl,rfl⟩,0,by omega,rfl,?_⟩
  ·rw [hn];first | rfl | (rw [Nat.add_comm];rfl)
  ·simpa using h0
@[go_sem] theorem qNh (a b:List UInt8) (hl:a.length≤9223372036854775807) (hm:b.length≤9223372036854775807):fn C 238 [] [.str a,.str b]=some (.bool (Op.bytesLess a b),[]):=by
 rw [qaa Tryz.func238 rfl rfl Tryz.results238 qEm.1 rfl rfl (by kernel_rfl)]
 simp -implicitDefEqProofs -dsimp +contextual (maxSteps:=9999999) (disch:=first | omega | simp only [go_sem]<;>omega | refine ib ?_;kernel_rfl) only [go_sem,seval,↓reduceIte]
 refine (qaj (fun i f H=>f 0= .str a∧f 1= .str b∧f 5= .int .i64 (i:Nat)∧H=qac.nil∧i≤a.length∧i≤b.length∧a.take i=b.take i) (fun i=>a.length - i) (fun i=>some (.bool (Op.bytesLess a b),[])) ?_ 0 _ _ ⟨rfl,rfl,rfl,rfl,by omega,by omega,rfl⟩).trans rfl
 rintro i f _ ⟨h0,h1,h5,rfl,hi,hj,ht⟩ ih
 by_cases h4:i<a.length
 ·by_cases h6:i<b.length
  ·simp -implicitDefEqProofs -dsimp +contextual (maxSteps:=9999999) (disch:=first | omega | simp only [go_sem]<;>omega | refine ib ?_;kernel_rfl) only [go_sem,seval,↓reduceIte,h0,h1,h5,h4,h6]
   (repeat' (refine qae (fun _=>?_) (fun _=>?_)))
   ·rename_i he
    refine ih (i+1) _ _ ⟨h0,h1,rfl,rfl,by omega,by omega,?_⟩ (by omega)
    rw [List.take_succ_eq_append_getElem h4,List.take_succ_eq_append_getElem h6,ht,UInt8.toNat_inj.1 he]
   ·rename_i he
    rw [qs2 a b i ht h4 h6 (fun e=>he (by rw [e]))]
  ·simp -implicitDefEqProofs -dsimp +contextual (maxSteps:=9999999) (disch:=first | omega | simp only [go_sem]<;>omega | refine ib ?_;kernel_rfl) only [go_sem,seval,↓reduceIte,h0,h1,h5,h4,h6]
   rw [qge a b i hi hj ht (.inr (by omega))]
 ·simp -implicitDefEqProofs -dsimp +contextual (maxSteps:=9999999) (disch:=first | omega | simp only [go_sem]<;>omega | refine ib ?_;kernel_rfl) only [go_sem,seval,↓reduceIte,h0,h1,h5,h4]
  (repeat' (refine qae (fun _=>?_) (fun _=>?_)))<;>rw [qge a b i hi hj ht (.inl (by omega))]
theorem qsM (me:En) (a b:Pr):qdf me a b=(decide (qa7 me.id a.e.id<qa7 me.id b.e.id)|| (decide (qa7 me.id a.e.id=qa7 me.id b.e.id)&&Op.bytesLess a.e.name b.e.name)):=by
 unfold qdf
 split
 ·rename_i h;simp [h]
 ·rename_i h;simp [h]
@[go_sem] theorem qNi (me:En) (a b:Pr) (h1:me.id≤18446744073709551615) (h2:a.e.id≤18446744073709551615) (h3:b.e.id≤18446744073709551615) (h4:a.e.name.length≤9223372036854775807) (h5:b.e.name.length≤9223372036854775807):fn C 187 [] [.agg [.str me.name,.int .u64 (me.id:Int),.int .i64 me.fr,.int .i64 me.un,.int .i64 me.ix,.str me.tag],.agg [.str a.e.name,.int .u64 (a.e.id:Int),.int .i64 a.e.fr,.int .i64 a.e.un,.int .i64 a.e.ix,.str a.e.tag,.int .i64 a.since,.int .i64 a.under],.agg [.str b.e.name,.int .u64 (b.e.id:Int),.int .i64 b.e.fr,.int .i64 b.e.un,.int .i64 b.e.ix,.str b.e.tag,.int .i64 b.since,.int .i64 b.under]]=some (.bool (qdf me a b),[]):=by
 rw [qaa Tryz.func187 rfl rfl Tryz.results187 qDV.1 rfl rfl (by kernel_rfl)]
 rw [qsM]
 simp -implicitDefEqProofs -dsimp +contextual (maxSteps:=9999999) (disch:=first | omega | simp only [go_sem]<;>omega | refine ib ?_;kernel_rfl) only [go_sem,seval,↓reduceIte]
 (repeat' (refine qae (fun _=>?_) (fun _=>?_)))
 all_goals exact qas (by simp [*])
theorem qc8 (l:List Pr) (name:List UInt8) (i:Nat) (h:i<l.length):qbc (l.take (i+1)) name=qbc (l.take i) name++(if l[i].e.name=name then [] else [l[i]]):=by
 unfold qbc
 rw [List.take_succ_eq_append_getElem h,List.filter_append]
 congr 1
 by_cases e:l[i].e.name=name<;>simp [e]
theorem qe3 (l:List Pr) (name:List UInt8):(qbc l name).length≤l.length:=List.length_filter_le _ _
@[go_sem] theorem qHK (l:List Pr) (name:List UInt8) (hl:l.length≤1000000):fn C 126 [] [.slice 8 (l.map Pr.cs),.str name]=some (.slice 8 ((qbc l name).map Pr.cs),[]):=by
 rw [qah Tryz.func126 rfl rfl Tryz.results126 qDp.1 rfl rfl (by kernel_rfl)]
 simp -implicitDefEqProofs -dsimp +contextual (maxSteps:=9999999) (disch:=first | omega | simp only [go_sem]<;>omega | refine ib ?_;kernel_rfl) only [go_sem,seval,↓reduceIte]
 refine qeb l.length (fun i f H=>f 0= .slice 8 (l.map Pr.cs)∧f 1= .str name∧f 6= .int .i64 (i:Nat)∧qGg f H 5 105 8 ((qbc (l.take i) name).map Pr.cs)) ?_ ?_ (by exact ⟨rfl,rfl,rfl,⟨_,rfl,rfl⟩⟩)
 ·rintro i f H hi ⟨f0,f1,f6,g,f5,hA⟩ ih
  have hm:=qc8 l name i hi
  have row:=qda l i hi
  have hn:((qbc (l.take i) name).map Pr.cs).length≤1000000:=by
   have:=qe3 (l.take i) name
   simp at this ⊢;omega
  by_cases e:l[i].e.name=name
  ·rw [if_pos e,List.append_nil]at hm
   rw [←hm]at f5 hA hn
   generalize (qbc (l.take (i+1)) name).map Pr.cs=r at *
   simp -implicitDefEqProofs -dsimp +contextual (maxSteps:=9999999) (disch:=first | omega | simp only [go_sem]<;>omega | refine ib ?_;kernel_rfl) only [go_sem,seval,↓reduceIte,f0,f1,f6,f5,hA,hi,row,e]
   exact ih _ _ ⟨f0,f1,rfl,⟨g,f5,hA⟩⟩
  ·rw [if_neg e]at hm
   have hm2:(qbc (l.take (i+1)) name).map Pr.cs=(qbc (l.take i) name).map Pr.cs++[l[i].cs]:=by rw [hm,List.map_append];rfl
   generalize (qbc (l.take i) name).map Pr.cs=r at *
   simp -implicitDefEqProofs -dsimp +contextual (maxSteps:=9999999) (disch:=first | omega | simp only [go_sem]<;>omega | refine ib ?_;kernel_rfl) only [go_sem,seval,↓reduceIte,f0,f1,f6,f5,hA,hi,row,e]
   exact ih _ _ ⟨f0,f1,rfl,by rw [hm2];exact ⟨_,by rw [List.length_append];rfl,rfl⟩⟩
 ·rintro f H ⟨f0,f1,f6,g,f5,hA⟩
  rw [List.take_length]at f5 hA
  simp -implicitDefEqProofs -dsimp +contextual (maxSteps:=9999999) (disch:=first | omega | simp only [go_sem]<;>omega | refine ib ?_;kernel_rfl) only [go_sem,seval,↓reduceIte,f0,f1,f6,f5,hA]
def qc9 (name:List UInt8) (x:Fg):Fg:=if x.p.e.name=name then { x with p:=qsK } else x
theorem qE6 (l:List Fg) (i:Nat) (h:i<l.length):(l.map Fg.cs)[i]?=some [.int .i64 l[i].bit,.str l[i].p.e.name,.int .u64 (l[i].p.e.id:Int),.int .i64 l[i].p.e.fr,.int .i64 l[i].p.e.un,.int .i64 l[i].p.e.ix,.str l[i].p.e.tag,.int .i64 l[i].p.since,.int .i64 l[i].p.under]:=by
 rw [List.getElem?_map,List.getElem?_eq_getElem h];rfl
@[go_sem] theorem qLL (l:List Fg) (name:List UInt8) (hl:l.length≤1000000):fn C 127 [] [.slice 9 (l.map Fg.cs),.str name]=some (.slice 9 ((qgV l name).map Fg.cs),[]):=by
 rw [qah Tryz.func127 rfl rfl Tryz.results127 qDq.1 rfl rfl (by kernel_rfl)]
 simp -implicitDefEqProofs -dsimp +contextual (maxSteps:=9999999) (disch:=first | omega | simp only [go_sem]<;>omega | refine ib ?_;kernel_rfl) only [go_sem,seval,↓reduceIte]
 refine qeb l.length (fun i f H=>f 0= .slice 9 (l.map Fg.cs)∧f 1= .str name∧f 6= .int .i64 (i:Nat)∧qGg f H 5 105 9 ((l.take i).map fun x=>(qc9 name x).cs)) ?_ ?_ (by exact ⟨rfl,rfl,rfl,⟨_,rfl,rfl⟩⟩)
 ·rintro i f H hi ⟨f0,f1,f6,g,f5,hA⟩ ih
  have hm:=qcz (fun x=>(qc9 name x).cs) l i hi
  have row:=qE6 l i hi
  have hn:((l.take i).map fun x=>(qc9 name x).cs).length≤1000000:=by simp;omega
  generalize (l.take i).map (fun x=>(qc9 name x).cs)=r at *
  by_cases e:l[i].p.e.name=name
  ·simp -implicitDefEqProofs -dsimp +contextual (maxSteps:=9999999) (disch:=first | omega | simp only [go_sem]<;>omega | refine ib ?_;kernel_rfl) only [go_sem,seval,↓reduceIte,f0,f1,f6,f5,hA,hi,row,e]
   exact ih _ _ ⟨f0,f1,rfl,by rw [hm,qc9,if_pos e];exact ⟨_,by rw [List.length_append];rfl,rfl⟩⟩
  ·simp -implicitDefEqProofs -dsimp +contextual (maxSteps:=9999999) (disch:=first | omega | simp only [go_sem]<;>omega | refine ib ?_;kernel_rfl) only [go_sem,seval,↓reduceIte,f0,f1,f6,f5,hA,hi,row,e]
   exact ih _ _ ⟨f0,f1,rfl,by rw [hm,qc9,if_neg e];exact ⟨_,by rw [List.length_append];rfl,rfl⟩⟩
 ·rintro f H ⟨f0,f1,f6,g,f5,hA⟩
  have e:(l.take l.length).map (fun x=>(qc9 name x).cs)=(qgV l name).map Fg.cs:=by rw [List.take_length,qgV,List.map_map];rfl
  rw [e]at f5 hA
  simp -implicitDefEqProofs -dsimp +contextual (maxSteps:=9999999) (disch:=first | omega | simp only [go_sem]<;>omega | refine ib ?_;kernel_rfl) only [go_sem,seval,↓reduceIte,f0,f1,f6,f5,hA]
end Go.Proofs.YtnpkhdjgedeppaaGreatDoor
namespace Go.Proofs.YtnpkhdjgedeppaaGreatDoor
set_option maxHeartbeats 64000000
open Go.Am
set_option linter.unusedSimpArgs false
set_option linter.unusedVariables false
set_option maxRecDepth 100000
def qe4 (e:En):Bool:=qfw e.name&&decide (0≤e.fr)&&decide (e.fr≤e.un)&&decide (e.un≤1073741824)&&decide (0≤e.ix)&&decide (e.ix≤64)&&decide (e.tag.length=32)
def qmz (k:List UInt8) (e:En):List UInt8:=qBK k (qm2 e)
def qcn (gi:Int) (gk:List UInt8) (e:En) (now:Int):Int:=
 if qe4 e=true then if e.ix<gi then 33 else if gi<e.ix then 34 else if e.tag=qmz gk e then if now<e.fr∨e.un<now then 32 else 0 else 20 else 11
def qbr (gi:Int) (gk:List UInt8) (e:En) (now:Int):Pr:=if qcn gi gk e now=0 then ⟨e,now,gi⟩ else qsK
@[go_sem] theorem qLM (e : En) (hn : e.name.length ≤ 1000000000000) : fn C 200 [] [.agg [.str e.name, .int .u64 (e.id : Int), .int .i64 e.fr, .int .i64 e.un, .int .i64 e.ix, .str e.tag]] = some (.bool (qe4 e), []) := by
  rw [qaa Tryz.func200 rfl rfl Tryz.results200 qD1.1 rfl rfl (by kernel_rfl)]
  simp -implicitDefEqProofs -dsimp +contextual (maxSteps := 9999999) (disch := first | omega | simp only [go_sem] <;> omega | refine ib ?_; kernel_rfl) only [go_sem, seval, ↓reduceIte]
  (repeat' (refine qae (fun _ => ?_) (fun _ => ?_))) <;> exact qas (by simp [qe4, *])
@[go_sem] theorem qLN (e : En) (hn : e.name.length ≤ 1000000000000) : fn C 220 [] [.agg [.str e.name, .int .u64 (e.id : Int), .int .i64 e.fr, .int .i64 e.un, .int .i64 e.ix, .str e.tag]] = some (.bool (qe4 e), []) := by
  rw [qaa Tryz.func220 rfl rfl Tryz.results220 qD8.1 rfl rfl (by kernel_rfl)]
  simp -implicitDefEqProofs -dsimp +contextual (maxSteps := 9999999) (disch := first | omega | simp only [go_sem] <;> omega | refine ib ?_; kernel_rfl) only [go_sem, seval, ↓reduceIte]
  (repeat' (refine qae (fun _ => ?_) (fun _ => ?_))) <;> exact qas (by simp [qe4, *])
@[go_sem] theorem qLO (k m t:List UInt8) (h:k.length≤1000000) (hf:m.length≤500000) (ht:t.length≤1000000):fn C 246 [] [.slice 1 (k.map qab),.slice 1 (m.map qab),.slice 1 (t.map qab)]=some (.bool (decide (qBK k m=t)),[]):=by
 rw [qaa Tryz.func246 rfl rfl Tryz.results246 qEr.1 rfl rfl (by kernel_rfl)]
 have hl:=qxy k m
 simp -implicitDefEqProofs -dsimp +contextual (maxSteps:=9999999) (disch:=first | omega | simp only [go_sem]<;>omega | refine ib ?_;kernel_rfl) only [go_sem,seval,↓reduceIte]
@[go_sem] theorem qLP (k:List UInt8) (e:En) (h:e.ok) (hn:e.name.length≤10000) (ht:e.tag.length≤10000) (hk:k.length≤10000):fn C 202 [] [.str k,.agg [.str e.name,.int .u64 (e.id:Int),.int .i64 e.fr,.int .i64 e.un,.int .i64 e.ix,.str e.tag]]=some (.bool (decide (e.tag=qmz k e)),[]):=by
 rw [qaa Tryz.func202 rfl rfl Tryz.results202 qD3.1 rfl rfl (by kernel_rfl)]
 have e1:=qMQ e h (by omega)
 have e2:=qLO k (qm2 e) e.tag (by omega) (by rw [qkU];omega) (by omega)
 simp -implicitDefEqProofs -dsimp +contextual (maxSteps:=9999999) (disch:=first | omega | simp only [go_sem]<;>omega | refine ib ?_;kernel_rfl) only [go_sem,seval,↓reduceIte,e1,e2]
 refine qas ?_
 rw [qmz,decide_eq_true_iff,decide_eq_true_iff]
 exact eq_comm
@[go_sem] theorem qNj (a:Int):fn C 245 [] [.int .i64 a]=some (.bool false,[]):=by
 rw [qaa Tryz.func245 rfl rfl Tryz.results245 qEq.1 rfl rfl (by kernel_rfl)]
 simp -implicitDefEqProofs -dsimp +contextual (maxSteps:=9999999) (disch:=first | omega | simp only [go_sem]<;>omega | refine ib ?_;kernel_rfl) only [go_sem,seval,↓reduceIte]
@[go_sem] theorem qLQ (a b:Int):fn C 201 [] [.int .i64 a,.int .i64 b]=some (.int .i64 (if a<b then -1 else if b<a then 1 else 0),[]):=by
 rw [qaa Tryz.func201 rfl rfl Tryz.results201 qD2.1 rfl rfl (by kernel_rfl)]
 by_cases h1:a<b
 ·simp -implicitDefEqProofs -dsimp +contextual (maxSteps:=9999999) (disch:=first | omega | simp only [go_sem]<;>omega | refine ib ?_;kernel_rfl) only [go_sem,seval,↓reduceIte,h1]
 ·by_cases h2:b<a
  ·simp -implicitDefEqProofs -dsimp +contextual (maxSteps:=9999999) (disch:=first | omega | simp only [go_sem]<;>omega | refine ib ?_;kernel_rfl) only [go_sem,seval,↓reduceIte,h1,h2]
  ·simp -implicitDefEqProofs -dsimp +contextual (maxSteps:=9999999) (disch:=first | omega | simp only [go_sem]<;>omega | refine ib ?_;kernel_rfl) only [go_sem,seval,↓reduceIte,h1,h2]
@[go_sem] theorem qLR (gi:Int) (gk:List UInt8) (e:En) (now:Int) (h:e.ok) (hn:e.name.length≤10000) (ht:e.tag.length≤10000) (hk:gk.length≤10000):fn C 134 [] [.agg [.int .i64 gi,.str gk],.agg [.str e.name,.int .u64 (e.id:Int),.int .i64 e.fr,.int .i64 e.un,.int .i64 e.ix,.str e.tag],.int .i64 now]=some (.int .i64 (qcn gi gk e now),[]):=by
 rw [qaa Tryz.func134 rfl rfl Tryz.results134 qDt.1 rfl rfl (by kernel_rfl)]
 have e0:=qLM e (by omega)
 have e1:=qLP gk e h hn ht hk
 have e2:=qLQ e.ix gi
 rw [qcn]
 by_cases h0:qe4 e=true
 ·by_cases h1:e.ix<gi
  ·simp only [h1,if_true]at e2
   simp -implicitDefEqProofs -dsimp +contextual (maxSteps:=9999999) (disch:=first | omega | simp only [go_sem]<;>omega | refine ib ?_;kernel_rfl) only [go_sem,seval,↓reduceIte,e0,e2,h0,h1]
  ·by_cases h2:gi<e.ix
   ·simp only [h1,h2,if_true,if_false]at e2
    simp -implicitDefEqProofs -dsimp +contextual (maxSteps:=9999999) (disch:=first | omega | simp only [go_sem]<;>omega | refine ib ?_;kernel_rfl) only [go_sem,seval,↓reduceIte,e0,e2,h0,h1,h2]
   ·simp only [h1,h2,if_false]at e2
    by_cases h3:e.tag=qmz gk e
    ·rw [decide_eq_true h3]at e1
     rw [if_pos h3]
     by_cases h4:now<e.fr
     ·simp -implicitDefEqProofs -dsimp +contextual (maxSteps:=9999999) (disch:=first | omega | simp only [go_sem]<;>omega | refine ib ?_;kernel_rfl) only [go_sem,seval,↓reduceIte,e0,e1,e2,h0,h1,h2,h4]
     ·by_cases h5:e.un<now
      ·simp -implicitDefEqProofs -dsimp +contextual (maxSteps:=9999999) (disch:=first | omega | simp only [go_sem]<;>omega | refine ib ?_;kernel_rfl) only [go_sem,seval,↓reduceIte,e0,e1,e2,h0,h1,h2,h4,h5]
      ·simp -implicitDefEqProofs -dsimp +contextual (maxSteps:=9999999) (disch:=first | omega | simp only [go_sem]<;>omega | refine ib ?_;kernel_rfl) only [go_sem,seval,↓reduceIte,e0,e1,e2,h0,h1,h2,h4,h5]
    ·rw [decide_eq_false h3]at e1
     rw [if_neg h3]
     simp -implicitDefEqProofs -dsimp +contextual (maxSteps:=9999999) (disch:=first | omega | simp only [go_sem]<;>omega | refine ib ?_;kernel_rfl) only [go_sem,seval,↓reduceIte,e0,e1,e2,h0,h1,h2]
 ·simp -implicitDefEqProofs -dsimp +contextual (maxSteps:=9999999) (disch:=first | omega | simp only [go_sem]<;>omega | refine ib ?_;kernel_rfl) only [go_sem,seval,↓reduceIte,e0,h0]
@[go_sem] theorem e45 (gi:Int) (gk:List UInt8) (e:En) (now:Int) (h:e.ok) (hn:e.name.length≤10000) (ht:e.tag.length≤10000) (hk:gk.length≤10000):fn C 45 [] [.agg [.int .i64 gi,.str gk],.agg [.str e.name,.int .u64 (e.id:Int),.int .i64 e.fr,.int .i64 e.un,.int .i64 e.ix,.str e.tag],.int .i64 now]=some (.tup [.agg [.str (qbr gi gk e now).e.name,.int .u64 ((qbr gi gk e now).e.id:Int),.int .i64 (qbr gi gk e now).e.fr,.int .i64 (qbr gi gk e now).e.un,.int .i64 (qbr gi gk e now).e.ix,.str (qbr gi gk e now).e.tag,.int .i64 (qbr gi gk e now).since,.int .i64 (qbr gi gk e now).under],.int .i64 (qcn gi gk e now)],[]):=by
 rw [qaa Tryz.func45 rfl rfl Tryz.results45 qJe.1 rfl rfl (by kernel_rfl)]
 have e0:=qLR gi gk e now h hn ht hk
 rw [qbr]
 by_cases h0:qcn gi gk e now=0
 ·simp -implicitDefEqProofs -dsimp +contextual (maxSteps:=9999999) (disch:=first | omega | simp only [go_sem]<;>omega | refine ib ?_;kernel_rfl) only [go_sem,seval,↓reduceIte,e0,h0]
 ·simp -implicitDefEqProofs -dsimp +contextual (maxSteps:=9999999) (disch:=first | omega | simp only [go_sem]<;>omega | refine ib ?_;kernel_rfl) only [go_sem,seval,↓reduceIte,e0,h0]
  rfl
@[go_sem] theorem qLS (k:List UInt8) (e:En) (h:e.ok) (hn:e.name.length≤10000) (ht:e.tag.length≤10000) (hk:k.length≤10000):fn C 221 [] [.str k,.agg [.str e.name,.int .u64 (e.id:Int),.int .i64 e.fr,.int .i64 e.un,.int .i64 e.ix,.str e.tag]]=some (.bool (decide (e.tag=qmz k e)),[]):=by
 rw [qaa Tryz.func221 rfl rfl Tryz.results221 qD9.1 rfl rfl (by kernel_rfl)]
 have e1:fn C 256 [] [.str k,.agg [.str e.name,.int .u64 (e.id:Int),.int .i64 e.fr,.int .i64 e.un,.int .i64 e.ix,.str e.tag]]=some (.agg [.str e.name,.int .u64 (e.id:Int),.int .i64 e.fr,.int .i64 e.un,.int .i64 e.ix,.str (qmz k e)],[]):=by
  rw [qaa Tryz.func256 rfl rfl Tryz.results256 qEy.1 rfl rfl (by kernel_rfl)]
  have e1:=qMR e h (by omega)
  have e2:=qMP k (qm2 e) (by omega) (by rw [qkU];omega)
  simp -implicitDefEqProofs -dsimp +contextual (maxSteps:=9999999) (disch:=first | omega | simp only [go_sem]<;>omega | refine ib ?_;kernel_rfl) only [go_sem,seval,↓reduceIte,e1,e2]
  rfl
 simp -implicitDefEqProofs -dsimp +contextual (maxSteps:=9999999) (disch:=first | omega | simp only [go_sem]<;>omega | refine ib ?_;kernel_rfl) only [go_sem,seval,↓reduceIte,e1]
 refine qas ?_
 exact decide_eq_true_iff.trans (eq_comm.trans decide_eq_true_iff.symm)
@[go_sem] theorem qLT (gi:Int) (gk:List UInt8) (e:En) (now:Int) (h:e.ok) (hn:e.name.length≤10000) (ht:e.tag.length≤10000) (hk:gk.length≤10000):fn C 163 [] [.agg [.int .i64 gi,.str gk],.agg [.str e.name,.int .u64 (e.id:Int),.int .i64 e.fr,.int .i64 e.un,.int .i64 e.ix,.str e.tag],.int .i64 now]=some (.int .i64 (qcn gi gk e now),[]):=by
 rw [qaa Tryz.func163 rfl rfl Tryz.results163 qDD.1 rfl rfl (by kernel_rfl)]
 have e0:=qLN e (by omega)
 have e1:=qLS gk e h hn ht hk
 rw [qcn]
 by_cases h0:qe4 e=true
 ·by_cases h1:e.ix<gi
  ·simp -implicitDefEqProofs -dsimp +contextual (maxSteps:=9999999) (disch:=first | omega | simp only [go_sem]<;>omega | refine ib ?_;kernel_rfl) only [go_sem,seval,↓reduceIte,e0,h0,h1]
  ·by_cases h2:gi<e.ix
   ·simp -implicitDefEqProofs -dsimp +contextual (maxSteps:=9999999) (disch:=first | omega | simp only [go_sem]<;>omega | refine ib ?_;kernel_rfl) only [go_sem,seval,↓reduceIte,e0,h0,h1,h2]
   ·by_cases h3:e.tag=qmz gk e
    ·rw [decide_eq_true h3]at e1
     rw [if_pos h3]
     by_cases h4:now<e.fr
     ·simp -implicitDefEqProofs -dsimp +contextual (maxSteps:=9999999) (disch:=first | omega | simp only [go_sem]<;>omega | refine ib ?_;kernel_rfl) only [go_sem,seval,↓reduceIte,e0,e1,h0,h1,h2,h4]
     ·by_cases h5:e.un<now
      ·simp -implicitDefEqProofs -dsimp +contextual (maxSteps:=9999999) (disch:=first | omega | simp only [go_sem]<;>omega | refine ib ?_;kernel_rfl) only [go_sem,seval,↓reduceIte,e0,e1,h0,h1,h2,h4,h5]
      ·simp -implicitDefEqProofs -dsimp +contextual (maxSteps:=9999999) (disch:=first | omega | simp only [go_sem]<;>omega | refine ib ?_;kernel_rfl) only [go_sem,seval,↓reduceIte,e0,e1,h0,h1,h2,h4,h5]
    ·rw [decide_eq_false h3]at e1
     rw [if_neg h3]
     simp -implicitDefEqProofs -dsimp +contextual (maxSteps:=9999999) (disch:=first | omega | simp only [go_sem]<;>omega | refine ib ?_;kernel_rfl) only [go_sem,seval,↓reduceIte,e0,e1,h0,h1,h2]
 ·simp -implicitDefEqProofs -dsimp +contextual (maxSteps:=9999999) (disch:=first | omega | simp only [go_sem]<;>omega | refine ib ?_;kernel_rfl) only [go_sem,seval,↓reduceIte,e0,h0]
@[go_sem] theorem qJG (gi:Int) (gk:List UInt8) (e:En) (now:Int) (h:e.ok) (hn:e.name.length≤10000) (ht:e.tag.length≤10000) (hk:gk.length≤10000):fn C 100 [] [.agg [.int .i64 gi,.str gk],.agg [.str e.name,.int .u64 (e.id:Int),.int .i64 e.fr,.int .i64 e.un,.int .i64 e.ix,.str e.tag],.int .i64 now]=some (.tup [.agg [.str (qbr gi gk e now).e.name,.int .u64 ((qbr gi gk e now).e.id:Int),.int .i64 (qbr gi gk e now).e.fr,.int .i64 (qbr gi gk e now).e.un,.int .i64 (qbr gi gk e now).e.ix,.str (qbr gi gk e now).e.tag,.int .i64 (qbr gi gk e now).since,.int .i64 (qbr gi gk e now).under],.int .i64 (qcn gi gk e now)],[]):=by
 rw [qaa Tryz.func100 rfl rfl Tryz.results100 qC9.1 rfl rfl (by kernel_rfl)]
 have e0:=qLT gi gk e now h hn ht hk
 rw [qbr]
 by_cases h0:qcn gi gk e now=0
 ·simp -implicitDefEqProofs -dsimp +contextual (maxSteps:=9999999) (disch:=first | omega | simp only [go_sem]<;>omega | refine ib ?_;kernel_rfl) only [go_sem,seval,↓reduceIte,e0,h0]
 ·simp -implicitDefEqProofs -dsimp +contextual (maxSteps:=9999999) (disch:=first | omega | simp only [go_sem]<;>omega | refine ib ?_;kernel_rfl) only [go_sem,seval,↓reduceIte,e0,h0]
  rfl
end Go.Proofs.YtnpkhdjgedeppaaGreatDoor
namespace Go.Proofs.YtnpkhdjgedeppaaGreatDoor
set_option maxHeartbeats 64000000
open Go.Am
set_option linter.unusedSimpArgs false
set_option linter.unusedVariables false
set_option maxRecDepth 100000
attribute [local irreducible] qa7 idB qdF
structure CliOk (n:Nd):Prop where
 k:CliK n
 jobId:I64 n.jobId
end Go.Proofs.YtnpkhdjgedeppaaGreatDoor
namespace Go.Proofs.YtnpkhdjgedeppaaGreatDoor
set_option maxHeartbeats 64000000
open Go.Am
set_option linter.unusedSimpArgs false
set_option linter.unusedVariables false
set_option maxRecDepth 100000
end Go.Proofs.YtnpkhdjgedeppaaGreatDoor
namespace Go.Proofs.YtnpkhdjgedeppaaGreatDoor
set_option maxHeartbeats 64000000
open Go.Am
set_option linter.unusedSimpArgs false
set_option linter.unusedVariables false
set_option maxRecDepth 100000
attribute [local irreducible] qa7 idB qdF
end Go.Proofs.YtnpkhdjgedeppaaGreatDoor
namespace Go.Proofs.YtnpkhdjgedeppaaGreatDoor
set_option maxHeartbeats 64000000
open Go.Am
set_option linter.unusedSimpArgs false
set_option linter.unusedVariables false
set_option maxRecDepth 100000
end Go.Proofs.YtnpkhdjgedeppaaGreatDoor
namespace Go.Proofs.YtnpkhdjgedeppaaGreatDoor
set_option maxHeartbeats 64000000
open Go.Am
set_option linter.unusedSimpArgs false
set_option linter.unusedVariables false
set_option maxRecDepth 100000
attribute [local irreducible] qa7 idB qdF
structure AloneOk (n:Nd) (key val:List UInt8):Prop where
 l:n.list=[]
 j:n.jobs=[]
 r:n.ready=true
 k:qx3 key=true
 v:val.length≤32
 room:(qdE n.items key).2=true∨n.items.length<16
 n0:0≤(qdE n.items key).1.n
 n1:(qdE n.items key).1.n≤1000
end Go.Proofs.YtnpkhdjgedeppaaGreatDoor
namespace Go.Proofs.YtnpkhdjgedeppaaGreatDoor
set_option maxHeartbeats 64000000
open Go.Am
set_option linter.unusedSimpArgs false
set_option linter.unusedVariables false
set_option maxRecDepth 100000
def qA0 (r:Rs):Bool:=decide (300<r.key.length)|| decide (300<r.val.length)
@[go_sem] theorem e10 (n:Nd) (h:n.fit):fn C 10 [] [.agg [.str n.me.name,.int .u64 (n.me.id:Int),.int .i64 n.me.fr,.int .i64 n.me.un,.int .i64 n.me.ix,.str n.me.tag,.int .i64 n.clock,.str n.psk,.int .i64 n.gateI,.str n.gateK,.bool n.ready,.slice 8 (n.pred.map Pr.cs),.slice 8 (n.list.map Pr.cs),.slice 9 (n.fingers.map Fg.cs),.slice 20 (n.sessions.map Se.cs),.slice 23 (n.pends.map Pd.cs),.slice 4 (n.items.map It.cs),.slice 29 (n.jobs.map Jb.cs),.int .i64 n.rid,.int .i64 n.jobId,.slice 1 (n.draws.map qaw),.slice 8 (n.results.map Rs.cs)]]=some (.bool (qbn n),[]):=by
 rw [qaa Tryz.func10 rfl rfl Tryz.results10 qIY.1 rfl rfl (by kernel_rfl)]
 have hme1:=h.me.n
 have hme2:=h.me.t
 obtain ⟨h1,h2,h3,h4,h5,h6,h7,h8,h9,h10,h11,h12,h13,h14,h15,h16,h17,h18,h19,h20⟩:=h
 rcases Bool.eq_false_or_eq_true (qbm n.me)with b1 | b1
 ·simp -implicitDefEqProofs -dsimp +contextual (maxSteps:=9999999) (disch:=first | omega | simp only [go_sem]<;>omega | refine ib ?_;kernel_rfl) only [go_sem,seval,↓reduceIte,b1]
  simp [qbn,b1]
 by_cases b2:300<n.psk.length
 ·simp -implicitDefEqProofs -dsimp +contextual (maxSteps:=9999999) (disch:=first | omega | simp only [go_sem]<;>omega | refine ib ?_;kernel_rfl) only [go_sem,seval,↓reduceIte,b1,b2]
  simp [qbn,b2]
 by_cases b3:300<n.gateK.length
 ·simp -implicitDefEqProofs -dsimp +contextual (maxSteps:=9999999) (disch:=first | omega | simp only [go_sem]<;>omega | refine ib ?_;kernel_rfl) only [go_sem,seval,↓reduceIte,b1,b2,b3]
  simp [qbn,b3]
 rcases Bool.eq_false_or_eq_true (qdT n.pred)with b4 | b4
 ·simp -implicitDefEqProofs -dsimp +contextual (maxSteps:=9999999) (disch:=first | omega | simp only [go_sem]<;>omega | refine ib ?_;kernel_rfl) only [go_sem,seval,↓reduceIte,b1,b2,b3,b4,h5]
  simp [qbn,b4]
 rcases Bool.eq_false_or_eq_true (qdT n.list)with b5 | b5
 ·simp -implicitDefEqProofs -dsimp +contextual (maxSteps:=9999999) (disch:=first | omega | simp only [go_sem]<;>omega | refine ib ?_;kernel_rfl) only [go_sem,seval,↓reduceIte,b1,b2,b3,b4,b5,h5,h7]
  simp [qbn,b5]
 by_cases b6:70<n.fingers.length
 ·simp -implicitDefEqProofs -dsimp +contextual (maxSteps:=9999999) (disch:=first | omega | simp only [go_sem]<;>omega | refine ib ?_;kernel_rfl) only [go_sem,seval,↓reduceIte,b1,b2,b3,b4,b5,b6,h5,h7]
  simp [qbn,b6]
 rcases Bool.eq_false_or_eq_true (qfy n.sessions)with b7 | b7
 ·simp -implicitDefEqProofs -dsimp +contextual (maxSteps:=9999999) (disch:=first | omega | simp only [go_sem]<;>omega | refine ib ?_;kernel_rfl) only [go_sem,seval,↓reduceIte,b1,b2,b3,b4,b5,b6,b7,h5,h7,h11]
  simp [qbn,b7]
 rcases Bool.eq_false_or_eq_true (qd6 n.pends)with b8 | b8
 ·simp -implicitDefEqProofs -dsimp +contextual (maxSteps:=9999999) (disch:=first | omega | simp only [go_sem]<;>omega | refine ib ?_;kernel_rfl) only [go_sem,seval,↓reduceIte,b1,b2,b3,b4,b5,b6,b7,b8,h5,h7,h11,h13]
  simp [qbn,b8]
 rcases Bool.eq_false_or_eq_true (qfz n.items)with b9 | b9
 ·simp -implicitDefEqProofs -dsimp +contextual (maxSteps:=9999999) (disch:=first | omega | simp only [go_sem]<;>omega | refine ib ?_;kernel_rfl) only [go_sem,seval,↓reduceIte,b1,b2,b3,b4,b5,b6,b7,b8,b9,h5,h7,h11,h13,h15]
  simp [qbn,b9]
 by_cases b10:20<n.jobs.length
 ·simp -implicitDefEqProofs -dsimp +contextual (maxSteps:=9999999) (disch:=first | omega | simp only [go_sem]<;>omega | refine ib ?_;kernel_rfl) only [go_sem,seval,↓reduceIte,b1,b2,b3,b4,b5,b6,b7,b8,b9,b10,h5,h7,h11,h13,h15]
  simp [qbn,b10]
 by_cases b11:60<n.draws.length
 ·simp -implicitDefEqProofs -dsimp +contextual (maxSteps:=9999999) (disch:=first | omega | simp only [go_sem]<;>omega | refine ib ?_;kernel_rfl) only [go_sem,seval,↓reduceIte,b1,b2,b3,b4,b5,b6,b7,b8,b9,b10,b11,h5,h7,h11,h13,h15]
  simp [qbn,b11]
 by_cases b12:40<n.results.length
 ·simp -implicitDefEqProofs -dsimp +contextual (maxSteps:=9999999) (disch:=first | omega | simp only [go_sem]<;>omega | refine ib ?_;kernel_rfl) only [go_sem,seval,↓reduceIte,b1,b2,b3,b4,b5,b6,b7,b8,b9,b10,b11,b12,h5,h7,h11,h13,h15]
  simp [qbn,b12]
 simp -implicitDefEqProofs -dsimp +contextual (maxSteps:=9999999) (disch:=first | omega | simp only [go_sem]<;>omega | refine ib ?_;kernel_rfl) only [go_sem,seval,↓reduceIte,b1,b2,b3,b4,b5,b6,b7,b8,b9,b10,b11,b12,h5,h7,h11,h13,h15]
 refine qeb n.fingers.length (fun i f H=>f 1= .ptr 101 1 0 0∧f 3= .int .i64 (i:Nat)∧H 101=⟨1,.live,22,[n.cs],false⟩∧(n.fingers.take i).any (fun x=>qbm x.p.e)=false) ?_ ?_ ⟨rfl,rfl,rfl,rfl⟩
 ·rintro i f H hi ⟨f1,f3,hH,ha⟩ ih
  have k1:=(h9 _ (List.getElem_mem hi)).l.n
  have k2:=(h9 _ (List.getElem_mem hi)).l.t
  simp -implicitDefEqProofs -dsimp +contextual (maxSteps:=9999999) (disch:=first | omega | simp only [go_sem]<;>omega | refine ib ?_;kernel_rfl) only [go_sem,seval,↓reduceIte,f1,f3,hH,hi,Nd.cs]
  (repeat' (refine qae (fun _=>?_) (fun _=>?_)))
  ·rename_i g;simp [qbn,qcT (p:=fun x:Fg=>qbm x.p.e) hi g]
  ·rename_i g;exact ih _ _ ⟨f1,rfl,hH,qa5 hi ha (by simpa using g)⟩
 rintro f H ⟨f1,f3,hH,ha⟩
 simp -implicitDefEqProofs -dsimp +contextual (maxSteps:=9999999) (disch:=first | omega | simp only [go_sem]<;>omega | refine ib ?_;kernel_rfl) only [go_sem,seval,↓reduceIte,f1,f3,hH,Nd.cs]
 have a1:=qby ha
 refine qeb n.jobs.length (fun i f H=>f 1= .ptr 101 1 0 0∧f 4= .int .i64 (i:Nat)∧H 101=⟨1,.live,22,[n.cs],false⟩∧(n.jobs.take i).any qcS=false) ?_ ?_ ⟨f1,rfl,hH,rfl⟩
 ·rintro i f H hi ⟨f1,f4,hH,ha⟩ ih
  obtain ⟨k1,k2,⟨k3,k4⟩,⟨k5,k6⟩,⟨k7,k8⟩,k9,k10⟩:=h17 _ (List.getElem_mem hi)
  have big:qcS n.jobs[i]=true→qbn n=true:=fun g=>by simp [qbn,qcT hi g]
  by_cases c1:300<n.jobs[i].key.length
  ·simp -implicitDefEqProofs -dsimp +contextual (maxSteps:=9999999) (disch:=first | omega | simp only [go_sem]<;>omega | refine ib ?_;kernel_rfl) only [go_sem,seval,↓reduceIte,f1,f4,hH,hi,Nd.cs,c1]
   rw [big (by simp [qcS,c1])]
  by_cases c2:300<n.jobs[i].val.length
  ·simp -implicitDefEqProofs -dsimp +contextual (maxSteps:=9999999) (disch:=first | omega | simp only [go_sem]<;>omega | refine ib ?_;kernel_rfl) only [go_sem,seval,↓reduceIte,f1,f4,hH,hi,Nd.cs,c1,c2]
   rw [big (by simp [qcS,c2])]
  by_cases c3:300<n.jobs[i].item.k.length
  ·simp -implicitDefEqProofs -dsimp +contextual (maxSteps:=9999999) (disch:=first | omega | simp only [go_sem]<;>omega | refine ib ?_;kernel_rfl) only [go_sem,seval,↓reduceIte,f1,f4,hH,hi,Nd.cs,c1,c2,c3]
   rw [big (by simp [qcS,c3])]
  by_cases c4:300<n.jobs[i].item.v.length
  ·simp -implicitDefEqProofs -dsimp +contextual (maxSteps:=9999999) (disch:=first | omega | simp only [go_sem]<;>omega | refine ib ?_;kernel_rfl) only [go_sem,seval,↓reduceIte,f1,f4,hH,hi,Nd.cs,c1,c2,c3,c4]
   rw [big (by simp [qcS,c4])]
  rcases Bool.eq_false_or_eq_true (qbm n.jobs[i].owner)with c5 | c5
  ·simp -implicitDefEqProofs -dsimp +contextual (maxSteps:=9999999) (disch:=first | omega | simp only [go_sem]<;>omega | refine ib ?_;kernel_rfl) only [go_sem,seval,↓reduceIte,f1,f4,hH,hi,Nd.cs,c1,c2,c3,c4,c5]
   rw [big (by simp [qcS,c5])]
  rcases Bool.eq_false_or_eq_true (qbm n.jobs[i].back)with c6 | c6
  ·simp -implicitDefEqProofs -dsimp +contextual (maxSteps:=9999999) (disch:=first | omega | simp only [go_sem]<;>omega | refine ib ?_;kernel_rfl) only [go_sem,seval,↓reduceIte,f1,f4,hH,hi,Nd.cs,c1,c2,c3,c4,c5,c6]
   rw [big (by simp [qcS,c6])]
  by_cases c7:30<n.jobs[i].asked.length
  ·simp -implicitDefEqProofs -dsimp +contextual (maxSteps:=9999999) (disch:=first | omega | simp only [go_sem]<;>omega | refine ib ?_;kernel_rfl) only [go_sem,seval,↓reduceIte,f1,f4,hH,hi,Nd.cs,c1,c2,c3,c4,c5,c6,c7]
   rw [big (by simp [qcS,c7])]
  simp -implicitDefEqProofs -dsimp +contextual (maxSteps:=9999999) (disch:=first | omega | simp only [go_sem]<;>omega | refine ib ?_;kernel_rfl) only [go_sem,seval,↓reduceIte,f1,f4,hH,hi,Nd.cs,c1,c2,c3,c4,c5,c6,c7]
  refine qeb n.jobs[i].asked.length (fun k f H=>f 1= .ptr 101 1 0 0∧f 4= .int .i64 (i:Nat)∧f 6= .int .i64 (k:Nat)∧H 101=⟨1,.live,22,[n.cs],false⟩∧(∃g,f 5= .ptr 105 g 0 0∧H 105=⟨g,.live,29,[n.jobs[i].cs],false⟩)∧(n.jobs[i].asked.take k).any (fun a=>decide (1000<a.length))=false) ?_ ?_ ⟨f1,f4,rfl,by simp [qac.set,hH],⟨_,rfl,rfl⟩,rfl⟩
  ·rintro k f H hk ⟨f1,f4,f6,hH,⟨g,f5,hG⟩,hb⟩ ih2
   have q1:=k10 _ (List.getElem_mem hk)
   simp -implicitDefEqProofs -dsimp +contextual (maxSteps:=9999999) (disch:=first | omega | simp only [go_sem]<;>omega | refine ib ?_;kernel_rfl) only [go_sem,seval,↓reduceIte,f1,f4,f5,f6,hH,hG,hk,hi]
   (repeat' (refine qae (fun _=>?_) (fun _=>?_)))
   ·rename_i g';rw [big (by simp [qcS,qcT (p:=fun a:List UInt8=>decide (1000<a.length)) hk (by simpa using g')])]
   ·rename_i g';exact ih2 _ _ ⟨f1,f4,rfl,hH,⟨g,f5,hG⟩,qa5 hk hb (by simpa using g')⟩
  ·rintro f H ⟨f1,f4,f6,hH,⟨g,f5,hG⟩,hb⟩
   simp -implicitDefEqProofs -dsimp +contextual (maxSteps:=9999999) (disch:=first | omega | simp only [go_sem]<;>omega | refine ib ?_;kernel_rfl) only [go_sem,seval,↓reduceIte,f1,f4,f5,f6,hH,hG,hi]
   exact ih _ _ ⟨f1,rfl,hH,qa5 hi ha (by simp [qcS,c1,c2,c3,c4,c5,c6,c7,qby hb])⟩
 rintro f H ⟨f1,f4,hH,ha⟩
 simp -implicitDefEqProofs -dsimp +contextual (maxSteps:=9999999) (disch:=first | omega | simp only [go_sem]<;>omega | refine ib ?_;kernel_rfl) only [go_sem,seval,↓reduceIte,f1,f4,hH,Nd.cs]
 have a2:=qby ha
 refine qeb n.results.length (fun i f H=>f 1= .ptr 101 1 0 0∧f 7= .int .i64 (i:Nat)∧H 101=⟨1,.live,22,[n.cs],false⟩∧(n.results.take i).any qA0=false) ?_ ?_ ⟨f1,rfl,hH,rfl⟩
 ·rintro i f H hi ⟨f1,f7,hH,ha⟩ ih
  have k1:=(h20 _ (List.getElem_mem hi)).k
  have k2:=(h20 _ (List.getElem_mem hi)).v
  have big:qA0 n.results[i]=true→qbn n=true:=fun g=>by
   have:=qcT hi g
   unfold qA0 at this
   simp [qbn,this]
  simp -implicitDefEqProofs -dsimp +contextual (maxSteps:=9999999) (disch:=first | omega | simp only [go_sem]<;>omega | refine ib ?_;kernel_rfl) only [go_sem,seval,↓reduceIte,f1,f7,hH,hi,Nd.cs]
  (repeat' (refine qae (fun _=>?_) (fun _=>?_)))
  ·rename_i g;rw [big (by simp [qA0,g])]
  ·rename_i g g';rw [big (by simp [qA0,g'])]
  ·rename_i g g';exact ih _ _ ⟨f1,rfl,hH,qa5 hi ha (by simp [qA0];omega)⟩
 rintro f H ⟨f1,f7,hH,ha⟩
 simp -implicitDefEqProofs -dsimp +contextual (maxSteps:=9999999) (disch:=first | omega | simp only [go_sem]<;>omega | refine ib ?_;kernel_rfl) only [go_sem,seval,↓reduceIte,f1,f7,hH,Nd.cs]
 have a3:=qby ha
 unfold qA0 at a3
 simp [qbn,b1,b2,b3,b4,b5,b6,b7,b8,b9,b10,b11,b12,a1,a2,a3]
end Go.Proofs.YtnpkhdjgedeppaaGreatDoor
