import Derived.Test.YtnpkhdjgedeppaaGreatDoorTShapes
namespace Go.Proofs.YtnpkhdjgedeppaaGreatDoor
set_option maxHeartbeats 64000000
open Go.Am
set_option linter.unusedSimpArgs false
set_option linter.unusedVariables false
set_option maxRecDepth 100000
@[reducible] def uAn (n:Nd) (e:En) (m r:Ms):AVal:= .uptr [.str n.me.name,.int .u64 (n.me.id:Int),.int .i64 n.me.fr,.int .i64 n.me.un,.int .i64 n.me.ix,.str n.me.tag,.int .i64 n.clock,.str n.psk,.int .i64 n.gateI,.str n.gateK,.bool n.ready,.slice 8 (n.pred.map Pr.cs),.slice 8 (n.list.map Pr.cs),.slice 9 (n.fingers.map Fg.cs),.slice 20 (n.sessions.map Se.cs),.slice 23 (n.pends.map Pd.cs),.slice 4 (n.items.map It.cs),.slice 29 (n.jobs.map Jb.cs),.int .i64 n.rid,.int .i64 n.jobId,.slice 1 (n.draws.map qaw),.slice 8 (n.results.map Rs.cs),.str e.name,.int .u64 (e.id:Int),.int .i64 e.fr,.int .i64 e.un,.int .i64 e.ix,.str e.tag,.int .i64 m.kind,.int .i64 m.rid,.int .i64 m.ver,.int .i64 m.err,.int .u64 (m.id:Int),.bool m.has,.bool m.gone,.str m.key,.str m.val,.slice 6 (m.ents.map En.cs),.slice 4 (m.items.map It.cs),.int .i64 r.kind,.int .i64 r.rid,.int .i64 r.ver,.int .i64 r.err,.int .u64 (r.id:Int),.bool r.has,.bool r.gone,.str r.key,.str r.val,.slice 6 (r.ents.map En.cs),.slice 4 (r.items.map It.cs)]
@[go_sem] theorem qJ5 (n:Nd) (e:En) (m r:Ms):uAn n e m r= .uptr [.str n.me.name,.int .u64 (n.me.id:Int),.int .i64 n.me.fr,.int .i64 n.me.un,.int .i64 n.me.ix,.str n.me.tag,.int .i64 n.clock,.str n.psk,.int .i64 n.gateI,.str n.gateK,.bool n.ready,.slice 8 (n.pred.map Pr.cs),.slice 8 (n.list.map Pr.cs),.slice 9 (n.fingers.map Fg.cs),.slice 20 (n.sessions.map Se.cs),.slice 23 (n.pends.map Pd.cs),.slice 4 (n.items.map It.cs),.slice 29 (n.jobs.map Jb.cs),.int .i64 n.rid,.int .i64 n.jobId,.slice 1 (n.draws.map qaw),.slice 8 (n.results.map Rs.cs),.str e.name,.int .u64 (e.id:Int),.int .i64 e.fr,.int .i64 e.un,.int .i64 e.ix,.str e.tag,.int .i64 m.kind,.int .i64 m.rid,.int .i64 m.ver,.int .i64 m.err,.int .u64 (m.id:Int),.bool m.has,.bool m.gone,.str m.key,.str m.val,.slice 6 (m.ents.map En.cs),.slice 4 (m.items.map It.cs),.int .i64 r.kind,.int .i64 r.rid,.int .i64 r.ver,.int .i64 r.err,.int .u64 (r.id:Int),.bool r.has,.bool r.gone,.str r.key,.str r.val,.slice 6 (r.ents.map En.cs),.slice 4 (r.items.map It.cs)]:=rfl
@[go_sem] theorem qJ6:M.nl 110=[]:=Eq.trans rfl rfl
theorem qFC (n:Nd) (e:En) (m r:Ms) (h:n.fine):fn C3 169 [] [(uAn n e m r)]=some (.tup [],[(uAn n e m ({ r with ents:=qdB n,has:=qg5 n }))]):=by
 rw [qaa (C:=C3) Tryz.func169 rfl rfl Tryz.results169 (show (C3).M.loc 169=_ from qDG.1) rfl rfl (by kernel_rfl)]
 have e1:=((qf3 32 (by decide) (by decide) _ _).trans (qsJ _ (by decide) _ _)).trans (e32 n h)
 simp -implicitDefEqProofs -dsimp +contextual (maxSteps:=9999999) (disch:=first | omega | simp only [go_sem]<;>omega | refine ib ?_;kernel_rfl) only [go_sem,seval,↓reduceIte,e1]
theorem qnR (n:Nd) (e:En) (m r:Ms):fn C3 176 [] [(uAn n e m r)]=some (.tup [],[(uAn n e m r)]):=by
 rw [qaa (C:=C3) Tryz.func176 rfl rfl Tryz.results176 (show (C3).M.loc 176=_ from qDN.1) rfl rfl (by kernel_rfl)]
 simp -implicitDefEqProofs -dsimp +contextual (maxSteps:=9999999) (disch:=first | omega | simp only [go_sem]<;>omega | refine ib ?_;kernel_rfl) only [go_sem,seval,↓reduceIte]
theorem qIv (n:Nd) (e:En) (m r:Ms) (h:n.fine) (hm:m.id≤18446744073709551615):fn C3 171 [] [(uAn n e m r)]=some (.tup [],[(uAn n e m ({ r with ents:=[qbE n.me n.list m.id] }))]):=by
 rw [qah (C:=C3) Tryz.func171 rfl rfl Tryz.results171 (show (C3).M.loc 171=_ from qDI.1) rfl rfl (by kernel_rfl)]
 have e1:=((qf3 128 (by decide) (by decide) _ _).trans (qsJ _ (by decide) _ _)).trans (qJA n.me n.list m.id hm h.me (Nat.le_trans h.ll (by decide)) (fun p hp=>(h.li p hp).1))
 simp -implicitDefEqProofs -dsimp +contextual (maxSteps:=9999999) (disch:=first | omega | simp only [go_sem]<;>omega | refine ib ?_;kernel_rfl) only [go_sem,seval,↓reduceIte,e1]
theorem qFD (n:Nd) (e:En) (m r:Ms) (h:n.mid 100000):fn C3 175 [] [.uptr [.str n.me.name,.int .u64 (n.me.id:Int),.int .i64 n.me.fr,.int .i64 n.me.un,.int .i64 n.me.ix,.str n.me.tag,.int .i64 n.clock,.str n.psk,.int .i64 n.gateI,.str n.gateK,.bool n.ready,.slice 8 (n.pred.map Pr.cs),.slice 8 (n.list.map Pr.cs),.slice 9 (n.fingers.map Fg.cs),.usl 20 (n.sessions.map Se.cs),.usl 23 (n.pends.map Pd.cs),.slice 4 (n.items.map It.cs),.usl 29 (n.jobs.map Jb.cs),.int .i64 n.rid,.int .i64 n.jobId,.slice 1 (n.draws.map qaw),.usl 8 (n.results.map Rs.cs),.str e.name,.int .u64 (e.id:Int),.int .i64 e.fr,.int .i64 e.un,.int .i64 e.ix,.str e.tag,.int .i64 m.kind,.int .i64 m.rid,.int .i64 m.ver,.int .i64 m.err,.int .u64 (m.id:Int),.bool m.has,.bool m.gone,.str m.key,.str m.val,.slice 6 (m.ents.map En.cs),.slice 4 (m.items.map It.cs),.int .i64 r.kind,.int .i64 r.rid,.int .i64 r.ver,.int .i64 r.err,.int .u64 (r.id:Int),.bool r.has,.bool r.gone,.str r.key,.str r.val,.slice 6 (r.ents.map En.cs),.slice 4 (r.items.map It.cs)]]=some (.tup [],[(uAn ((qao n e.name)) e m r)]):=by
 rw [qaa (C:=C3) Tryz.func175 rfl rfl Tryz.results175 (show (C3).M.loc 175=_ from qDM.1) rfl rfl (by kernel_rfl)]
 have e1:=qBt n e.name h
 simp -implicitDefEqProofs -dsimp +contextual (maxSteps:=9999999) (disch:=first | omega | simp only [go_sem]<;>omega | refine ib ?_;kernel_rfl) only [go_sem,seval,↓reduceIte,e1]
theorem qBw (n:Nd) (e:En) (m r:Ms) (h:n.fine) (he:e.fine):fn C3 170 [] [(uAn n e m r)]=some (.tup [],[(uAn ((qaE n e)) e m r)]):=by
 rw [qah (C:=C3) Tryz.func170 rfl rfl Tryz.results170 (show (C3).M.loc 170=_ from qDH.1) rfl rfl (by kernel_rfl)]
 have e1:=((qf3 45 (by decide) (by decide) _ _).trans (qsJ _ (by decide) _ _)).trans (e45 n.gateI n.gateK e n.clock he.ok he.n he.t h.gk)
 rw [qaE]
 by_cases hv:qcn n.gateI n.gateK e n.clock=0
 ·have tk:=qd8 _ _ _ _ hv
  rw [hv,tk]at e1
  rw [if_pos hv,tk]
  cases hp:n.pred with
  | nil=>
   rw [qif hp,if_pos rfl]
   simp -implicitDefEqProofs -dsimp +contextual (maxSteps:=9999999) (disch:=first | omega | simp only [go_sem]<;>omega | refine ib ?_;kernel_rfl) only [go_sem,seval,↓reduceIte,e1,hp]
  | cons p l=>
   have hi:=h.pi p (by rw [hp];exact List.mem_cons_self ..)
   have e2:=((qf3 228 (by decide) (by decide) _ _).trans (qsJ _ (by decide) _ _)).trans (qLD p.e.id e.id n.me.id hi he.ok.id h.me)
   rw [qg8 hp]
   by_cases hn:p.e.name=e.name
   ·have hn':=eq_true hn
    rw [decide_eq_true hn,Bool.true_or,if_pos rfl]
    simp -implicitDefEqProofs -dsimp +contextual (maxSteps:=9999999) (disch:=first | omega | simp only [go_sem]<;>omega | refine ib ?_;kernel_rfl) only [go_sem,seval,↓reduceIte,e1,hp,hn']
   ·have hn':=eq_false hn
    rw [decide_eq_false hn,Bool.false_or]
    cases hb:qds p.e.id e.id n.me.id with
    | true=>
     rw [hb]at e2
     rw [if_pos rfl]
     simp -implicitDefEqProofs -dsimp +contextual (maxSteps:=9999999) (disch:=first | omega | simp only [go_sem]<;>omega | refine ib ?_;kernel_rfl) only [go_sem,seval,↓reduceIte,e1,e2,hp,hn']
    | false=>
     rw [hb]at e2
     rw [if_neg (by decide)]
     simp -implicitDefEqProofs -dsimp +contextual (maxSteps:=9999999) (disch:=first | omega | simp only [go_sem]<;>omega | refine ib ?_;kernel_rfl) only [go_sem,seval,↓reduceIte,e1,e2,hp,hn']
 ·have hv':=eq_false hv
  simp -implicitDefEqProofs -dsimp +contextual (maxSteps:=9999999) (disch:=first | omega | simp only [go_sem]<;>omega | refine ib ?_;kernel_rfl) only [go_sem,seval,↓reduceIte,e1,hv']
def qyd (n:Nd) (m r:Ms):Ms:=if qd7 n m.key=0 then r else { r with err:=qd7 n m.key }
theorem qJ7 (n:Nd) (e:En) (m r:Ms) (h:n.fine) (hk:m.key.length≤10000):fn C3 108 [] [(uAn n e m r)]=some (.bool (decide (qd7 n m.key=0)),[(uAn n e m ((qyd n m r)))]):=by
 rw [qaa (C:=C3) Tryz.func108 rfl rfl Tryz.results108 (show (C3).M.loc 108=_ from qDb.1) rfl rfl (by kernel_rfl)]
 have e1:=((qf3 38 (by decide) (by decide) _ _).trans (qsJ _ (by decide) _ _)).trans (e38 n m.key h hk)
 by_cases h1:n.ready=true
 ·have h1a:(n.ready=true)=True:=eq_true h1
  have h1b:(n.ready=false)=False:=by rw [h1];simp
  by_cases h2:qiU n m.key=true
  ·have hm:qd7 n m.key=0:=by rw [qd7,if_pos h1,if_pos h2]
   rw [h2]at e1
   rw [qyd,if_pos hm,hm]
   simp -implicitDefEqProofs -dsimp +contextual (maxSteps:=9999999) (disch:=first | omega | simp only [go_sem]<;>omega | refine ib ?_;kernel_rfl) only [go_sem,seval,↓reduceIte,e1,h1a,h1b]
  ·have hm:qd7 n m.key=40:=by rw [qd7,if_pos h1,if_neg h2]
   rw [Bool.eq_false_iff.2 h2]at e1
   rw [qyd,if_neg (by rw [hm];decide),hm]
   simp -implicitDefEqProofs -dsimp +contextual (maxSteps:=9999999) (disch:=first | omega | simp only [go_sem]<;>omega | refine ib ?_;kernel_rfl) only [go_sem,seval,↓reduceIte,e1,h1a,h1b]
 ·have h1a:(n.ready=true)=False:=eq_false h1
  have h1b:(n.ready=false)=True:=by simp [h1]
  have hm:qd7 n m.key=41:=by rw [qd7,if_neg h1]
  rw [qyd,if_neg (by rw [hm];decide),hm]
  simp -implicitDefEqProofs -dsimp +contextual (maxSteps:=9999999) (disch:=first | omega | simp only [go_sem]<;>omega | refine ib ?_;kernel_rfl) only [go_sem,seval,↓reduceIte,e1,h1a,h1b]
theorem qIw (n:Nd) (e:En) (m r:Ms) (hl:n.items.length≤1000000) (hm:m.items.length≤1000000) (hk:∀x∈m.items,x.k.length≤9223372036854775807):fn C3 173 [] [(uAn n e m r)]=some (.tup [],[(uAn ({ n with items:=(qa0 n.items m.items).1 }) e m ({ r with err:=(qa0 n.items m.items).2 }))]):=by
 rw [qaa (C:=C3) Tryz.func173 rfl rfl Tryz.results173 (show (C3).M.loc 173=_ from qDK.1) rfl rfl (by kernel_rfl)]
 have e1:=((qf3 229 (by decide) (by decide) _ _).trans (qsJ _ (by decide) _ _)).trans (qMh n.items m.items hl hm hk)
 simp -implicitDefEqProofs -dsimp +contextual (maxSteps:=9999999) (disch:=first | omega | simp only [go_sem]<;>omega | refine ib ?_;kernel_rfl) only [go_sem,seval,↓reduceIte,e1]
theorem qFE {α:Type} (X:List α):List.take (if 16<X.length then (16:Int) else (X.length:Int)).toNat X=List.take 16 X:=by
 split
 ·rfl
 ·rename_i h
  rw [Int.toNat_natCast,List.take_of_length_le (Nat.le_refl _),List.take_of_length_le (by omega)]
def qto (n:Nd) (e:En) (m r:Ms):Ms:=if n.ready=true then { r with items:=(n.items.filter (inR m.id e.id)).take 16 } else { r with err:=41 }
theorem qIx (n:Nd) (e:En) (m r:Ms) (hl:n.items.length≤100000) (hk:∀x∈n.items,x.k.length≤10000) (hm:m.id≤18446744073709551615) (he:e.id≤18446744073709551615):fn C3 174 [] [(uAn n e m r)]=some (.tup [],[(uAn n e m ((qto n e m r)))]):=by
 rw [qaa (C:=C3) Tryz.func174 rfl rfl Tryz.results174 (show (C3).M.loc 174=_ from qDL.1) rfl rfl (by kernel_rfl)]
 have e1:=((qf3 230 (by decide) (by decide) _ _).trans (qsJ _ (by decide) _ _)).trans (qMM n.items m.id e.id hm he hl hk)
 by_cases h1:n.ready=true
 ·have h1a:(n.ready=true)=True:=eq_true h1
  have h1b:(n.ready=false)=False:=by rw [h1];simp
  rw [qto,if_pos h1]
  simp -implicitDefEqProofs -dsimp +contextual (maxSteps:=9999999) (disch:=first | omega | simp only [go_sem]<;>omega | refine ib ?_;kernel_rfl) only [go_sem,seval,↓reduceIte,e1,h1a,h1b]
  rw [qFE]
 ·have h1a:(n.ready=true)=False:=eq_false h1
  have h1b:(n.ready=false)=True:=by simp [h1]
  rw [qto,if_neg h1]
  simp -implicitDefEqProofs -dsimp +contextual (maxSteps:=9999999) (disch:=first | omega | simp only [go_sem]<;>omega | refine ib ?_;kernel_rfl) only [go_sem,seval,↓reduceIte,h1a,h1b]
def qFF (n:Nd) (m r:Ms):Ms:=if qd7 n m.key=0 then qBq r (qdE n.items m.key) else { r with err:=qd7 n m.key }
theorem qMx (n:Nd) (e:En) (m r:Ms) (h:n.fine) (hk:m.key.length≤10000) (hl:n.items.length≤9223372036854775807):fn C3 172 [] [(uAn n e m r)]=some (.tup [],[(uAn n e m ((qFF n m r)))]):=by
 rw [qaa (C:=C3) Tryz.func172 rfl rfl Tryz.results172 (show (C3).M.loc 172=_ from qDJ.1) rfl rfl (by kernel_rfl)]
 have e0:=qJ7 n e m r h hk
 have e1:=((qf3 151 (by decide) (by decide) _ _).trans (qsJ _ (by decide) _ _)).trans (qMf n.items m.key hl)
 by_cases hm:qd7 n m.key=0
 ·rw [qyd,if_pos hm,hm]at e0
  rw [qFF,if_pos hm,qBq]
  generalize qdE n.items m.key=q at *
  obtain ⟨x,b⟩:=q
  cases b with
  | true=>simp -implicitDefEqProofs -dsimp +contextual (maxSteps:=9999999) (disch:=first | omega | simp only [go_sem]<;>omega | refine ib ?_;kernel_rfl) only [go_sem,seval,↓reduceIte,e0,e1]
  | false=>simp -implicitDefEqProofs -dsimp +contextual (maxSteps:=9999999) (disch:=first | omega | simp only [go_sem]<;>omega | refine ib ?_;kernel_rfl) only [go_sem,seval,↓reduceIte,e0,e1]
 ·rw [qyd,if_neg hm,decide_eq_false hm]at e0
  rw [qFF,if_neg hm]
  simp -implicitDefEqProofs -dsimp +contextual (maxSteps:=9999999) (disch:=first | omega | simp only [go_sem]<;>omega | refine ib ?_;kernel_rfl) only [go_sem,seval,↓reduceIte,e0]
end Go.Proofs.YtnpkhdjgedeppaaGreatDoor
namespace Go.Proofs.YtnpkhdjgedeppaaGreatDoor
set_option maxHeartbeats 64000000
open Go.Am
set_option linter.unusedSimpArgs false
set_option linter.unusedVariables false
set_option maxRecDepth 100000
attribute [local irreducible] qa7 idB qdF
theorem qIy (n:Nd) (e:En) (m:Ms) (h:AnsOk n e m) (kn:¬e.name=n.me.name) (k:m.kind=1):fn C 31 [] [(aNd n),.agg [.str e.name,.int .u64 (e.id:Int),.int .i64 e.fr,.int .i64 e.un,.int .i64 e.ix,.str e.tag],.agg [.int .i64 m.kind,.int .i64 m.rid,.int .i64 m.ver,.int .i64 m.err,.int .u64 (m.id:Int),.bool m.has,.bool m.gone,.str m.key,.str m.val,.slice 6 (m.ents.map En.cs),.slice 4 (m.items.map It.cs)]]=some (qb4 (qaz n e m),[]):=by
 have e0:=qtL m.kind
 rw [k,ka1]at e0
 have kn':=eq_false kn
 have e1:=e35 n e h.f h.e
 have hm1:=qaR e h.md
 have hf1:=qaL h.f h.e (by have:=h.md.ll;omega)
 have hr:(qaf n e).clock=n.clock∧(qaf n e).jobId=n.jobId∧(qaf n e).items=n.items:=by
  obtain ⟨l,hl⟩:=qaA n e
  rw [hl];exact ⟨rfl,rfl,rfl⟩
 obtain ⟨hc1,hj1,hi1⟩:=hr
 rw [qba (by rw [k];decide) kn (by omega),k,ka1]
 generalize qaf n e=d at *
 rw [qx8 k]
 rw [qah Tryz.func31 rfl rfl Tryz.results31 qkq.1 rfl rfl (by kernel_rfl)]
 simp -implicitDefEqProofs -dsimp +contextual (maxSteps:=9999999) (disch:=first | omega | simp only [go_sem]<;>omega | refine ib ?_;kernel_rfl) only [go_sem,seval,↓reduceIte,e0,e1,k,kn',qct,msZ]
theorem qIz (n:Nd) (e:En) (m:Ms) (h:AnsOk n e m) (kn:¬e.name=n.me.name) (k:m.kind=3):fn C 31 [] [(aNd n),.agg [.str e.name,.int .u64 (e.id:Int),.int .i64 e.fr,.int .i64 e.un,.int .i64 e.ix,.str e.tag],.agg [.int .i64 m.kind,.int .i64 m.rid,.int .i64 m.ver,.int .i64 m.err,.int .u64 (m.id:Int),.bool m.has,.bool m.gone,.str m.key,.str m.val,.slice 6 (m.ents.map En.cs),.slice 4 (m.items.map It.cs)]]=some (qb4 (qaz n e m),[]):=by
 have e0:=qtL m.kind
 rw [k,ka3]at e0
 have kn':=eq_false kn
 have e1:=e35 n e h.f h.e
 have hm1:=qaR e h.md
 have hf1:=qaL h.f h.e (by have:=h.md.ll;omega)
 have hr:(qaf n e).clock=n.clock∧(qaf n e).jobId=n.jobId∧(qaf n e).items=n.items:=by
  obtain ⟨l,hl⟩:=qaA n e
  rw [hl];exact ⟨rfl,rfl,rfl⟩
 obtain ⟨hc1,hj1,hi1⟩:=hr
 rw [qba (by rw [k];decide) kn (by omega),k,ka3]
 generalize qaf n e=d at *
 have e3:=e33 d hf1
 rw [qx9 k]
 rw [qah Tryz.func31 rfl rfl Tryz.results31 qkq.1 rfl rfl (by kernel_rfl)]
 simp -implicitDefEqProofs -dsimp +contextual (maxSteps:=9999999) (disch:=first | omega | simp only [go_sem]<;>omega | refine ib ?_;kernel_rfl) only [go_sem,seval,↓reduceIte,e0,e1,e3,k,kn',qct,msZ]
theorem qIA (n:Nd) (e:En) (m:Ms) (h:AnsOk n e m) (kn:¬e.name=n.me.name) (k:m.kind=5):fn C 31 [] [(aNd n),.agg [.str e.name,.int .u64 (e.id:Int),.int .i64 e.fr,.int .i64 e.un,.int .i64 e.ix,.str e.tag],.agg [.int .i64 m.kind,.int .i64 m.rid,.int .i64 m.ver,.int .i64 m.err,.int .u64 (m.id:Int),.bool m.has,.bool m.gone,.str m.key,.str m.val,.slice 6 (m.ents.map En.cs),.slice 4 (m.items.map It.cs)]]=some (qb4 (qaz n e m),[]):=by
 have e0:=qtL m.kind
 rw [k,ka5]at e0
 have kn':=eq_false kn
 have e1:=e35 n e h.f h.e
 have hm1:=qaR e h.md
 have hf1:=qaL h.f h.e (by have:=h.md.ll;omega)
 have hr:(qaf n e).clock=n.clock∧(qaf n e).jobId=n.jobId∧(qaf n e).items=n.items:=by
  obtain ⟨l,hl⟩:=qaA n e
  rw [hl];exact ⟨rfl,rfl,rfl⟩
 obtain ⟨hc1,hj1,hi1⟩:=hr
 rw [qba (by rw [k];decide) kn (by omega),k,ka5]
 generalize qaf n e=d at *
 have e3:=qMw d e hf1 h.e
 rw [qya k]
 generalize qaE d e=d2 at *
 rw [qah Tryz.func31 rfl rfl Tryz.results31 qkq.1 rfl rfl (by kernel_rfl)]
 simp -implicitDefEqProofs -dsimp +contextual (maxSteps:=9999999) (disch:=first | omega | simp only [go_sem]<;>omega | refine ib ?_;kernel_rfl) only [go_sem,seval,↓reduceIte,e0,e1,e3,k,kn',qct,msZ]
theorem qIB (n:Nd) (e:En) (m:Ms) (h:AnsOk n e m) (kn:¬e.name=n.me.name) (k:m.kind=6):fn C 31 [] [(aNd n),.agg [.str e.name,.int .u64 (e.id:Int),.int .i64 e.fr,.int .i64 e.un,.int .i64 e.ix,.str e.tag],.agg [.int .i64 m.kind,.int .i64 m.rid,.int .i64 m.ver,.int .i64 m.err,.int .u64 (m.id:Int),.bool m.has,.bool m.gone,.str m.key,.str m.val,.slice 6 (m.ents.map En.cs),.slice 4 (m.items.map It.cs)]]=some (qb4 (qaz n e m),[]):=by
 have e0:=qtL m.kind
 rw [k,ka6]at e0
 have kn':=eq_false kn
 have e1:=e35 n e h.f h.e
 have hm1:=qaR e h.md
 have hf1:=qaL h.f h.e (by have:=h.md.ll;omega)
 have hr:(qaf n e).clock=n.clock∧(qaf n e).jobId=n.jobId∧(qaf n e).items=n.items:=by
  obtain ⟨l,hl⟩:=qaA n e
  rw [hl];exact ⟨rfl,rfl,rfl⟩
 obtain ⟨hc1,hj1,hi1⟩:=hr
 rw [qba (by rw [k];decide) kn (by omega),k,ka6]
 generalize qaf n e=d at *
 have e3:=qJF d.me d.list m.id h.id hf1.me (Nat.le_trans hf1.ll (by decide)) (fun p hp=>(hf1.li p hp).1)
 rw [qyb k]
 generalize qbE d.me d.list m.id=o at *
 rw [qah Tryz.func31 rfl rfl Tryz.results31 qkq.1 rfl rfl (by kernel_rfl)]
 simp -implicitDefEqProofs -dsimp +contextual (maxSteps:=9999999) (disch:=first | omega | simp only [go_sem]<;>omega | refine ib ?_;kernel_rfl) only [go_sem,seval,↓reduceIte,e0,e1,e3,k,kn',qct,msZ]
theorem qIC (n:Nd) (e:En) (m:Ms) (h:AnsOk n e m) (kn:¬e.name=n.me.name) (k:m.kind=8):fn C 31 [] [(aNd n),.agg [.str e.name,.int .u64 (e.id:Int),.int .i64 e.fr,.int .i64 e.un,.int .i64 e.ix,.str e.tag],.agg [.int .i64 m.kind,.int .i64 m.rid,.int .i64 m.ver,.int .i64 m.err,.int .u64 (m.id:Int),.bool m.has,.bool m.gone,.str m.key,.str m.val,.slice 6 (m.ents.map En.cs),.slice 4 (m.items.map It.cs)]]=some (qb4 (qaz n e m),[]):=by
 have e0:=qtL m.kind
 rw [k,ka8]at e0
 have kn':=eq_false kn
 have e1:=e35 n e h.f h.e
 have hm1:=qaR e h.md
 have hf1:=qaL h.f h.e (by have:=h.md.ll;omega)
 have hr:(qaf n e).clock=n.clock∧(qaf n e).jobId=n.jobId∧(qaf n e).items=n.items:=by
  obtain ⟨l,hl⟩:=qaA n e
  rw [hl];exact ⟨rfl,rfl,rfl⟩
 obtain ⟨hc1,hj1,hi1⟩:=hr
 rw [qba (by rw [k];decide) kn (by omega),k,ka8]
 generalize qaf n e=d at *
 have e3:=qJ4 d m.key hf1 h.key
 have il:=hm1.il
 by_cases c:qd7 d m.key=0
 ·rw [qyc k c]
  rw [c]at e3
  have b2:=qLW d m.key m.val m.gone e m.rid 0 (Nat.le_trans h.key (by decide)) h.val (by rw [hc1];exact h.clock) (by rw [hj1];exact h.jobId) (hm1.le (by omega))
  generalize qdX d m.key m.val m.gone e m.rid 0=q at *
  obtain ⟨d2,acts⟩:=q
  unfold qb4 at b2
  rw [Nd.cs]at b2
  rw [qah Tryz.func31 rfl rfl Tryz.results31 qkq.1 rfl rfl (by kernel_rfl)]
  simp -implicitDefEqProofs -dsimp +contextual (maxSteps:=9999999) (disch:=first | omega | simp only [go_sem]<;>omega | refine ib ?_;kernel_rfl) only [go_sem,seval,↓reduceIte,e0,e1,e3,b2,k,kn']
 ·rw [qtj k c]
  have c':=eq_false c
  generalize qd7 d m.key=c0 at *
  generalize qdE d.items m.key=q at *
  rw [qah Tryz.func31 rfl rfl Tryz.results31 qkq.1 rfl rfl (by kernel_rfl)]
  simp -implicitDefEqProofs -dsimp +contextual (maxSteps:=9999999) (disch:=first | omega | simp only [go_sem]<;>omega | refine ib ?_;kernel_rfl) only [go_sem,seval,↓reduceIte,e0,e1,e3,k,kn',c',qct,msZ]
theorem qFG (n:Nd) (e:En) (m:Ms) (h:AnsOk n e m) (kn:¬e.name=n.me.name) (k:m.kind=10):fn C 31 [] [(aNd n),.agg [.str e.name,.int .u64 (e.id:Int),.int .i64 e.fr,.int .i64 e.un,.int .i64 e.ix,.str e.tag],.agg [.int .i64 m.kind,.int .i64 m.rid,.int .i64 m.ver,.int .i64 m.err,.int .u64 (m.id:Int),.bool m.has,.bool m.gone,.str m.key,.str m.val,.slice 6 (m.ents.map En.cs),.slice 4 (m.items.map It.cs)]]=some (qb4 (qaz n e m),[]):=by
 have e0:=qtL m.kind
 rw [k,qGx]at e0
 have kn':=eq_false kn
 have e1:=e35 n e h.f h.e
 have hm1:=qaR e h.md
 have hf1:=qaL h.f h.e (by have:=h.md.ll;omega)
 have hr:(qaf n e).clock=n.clock∧(qaf n e).jobId=n.jobId∧(qaf n e).items=n.items:=by
  obtain ⟨l,hl⟩:=qaA n e
  rw [hl];exact ⟨rfl,rfl,rfl⟩
 obtain ⟨hc1,hj1,hi1⟩:=hr
 rw [qba (by rw [k];decide) kn (by omega),k,qGx]
 generalize qaf n e=d at *
 have e3:=qJ4 d m.key hf1 h.key
 have il:=hm1.il
 have e4:=qMe d.items m.key (by omega)
 by_cases c:qd7 d m.key=0
 ·rw [qmT k c,qBq]
  rw [c]at e3
  generalize qdE d.items m.key=q at *
  obtain ⟨x,b⟩:=q
  cases b
  ·rw [qah Tryz.func31 rfl rfl Tryz.results31 qkq.1 rfl rfl (by kernel_rfl)]
   simp -implicitDefEqProofs -dsimp +contextual (maxSteps:=9999999) (disch:=first | omega | simp only [go_sem]<;>omega | refine ib ?_;kernel_rfl) only [go_sem,seval,↓reduceIte,e0,e1,e3,e4,k,kn',qct,msZ]
  ·rw [qah Tryz.func31 rfl rfl Tryz.results31 qkq.1 rfl rfl (by kernel_rfl)]
   simp -implicitDefEqProofs -dsimp +contextual (maxSteps:=9999999) (disch:=first | omega | simp only [go_sem]<;>omega | refine ib ?_;kernel_rfl) only [go_sem,seval,↓reduceIte,e0,e1,e3,e4,k,kn',qct,msZ]
 ·rw [qnP k c]
  have c':=eq_false c
  generalize qd7 d m.key=c0 at *
  generalize qdE d.items m.key=q at *
  rw [qah Tryz.func31 rfl rfl Tryz.results31 qkq.1 rfl rfl (by kernel_rfl)]
  simp -implicitDefEqProofs -dsimp +contextual (maxSteps:=9999999) (disch:=first | omega | simp only [go_sem]<;>omega | refine ib ?_;kernel_rfl) only [go_sem,seval,↓reduceIte,e0,e1,e3,e4,k,kn',c',qct,msZ]
theorem qFH (n:Nd) (e:En) (m:Ms) (h:AnsOk n e m) (kn:¬e.name=n.me.name) (k:m.kind=12):fn C 31 [] [(aNd n),.agg [.str e.name,.int .u64 (e.id:Int),.int .i64 e.fr,.int .i64 e.un,.int .i64 e.ix,.str e.tag],.agg [.int .i64 m.kind,.int .i64 m.rid,.int .i64 m.ver,.int .i64 m.err,.int .u64 (m.id:Int),.bool m.has,.bool m.gone,.str m.key,.str m.val,.slice 6 (m.ents.map En.cs),.slice 4 (m.items.map It.cs)]]=some (qb4 (qaz n e m),[]):=by
 have e0:=qtL m.kind
 rw [k,qGy]at e0
 have kn':=eq_false kn
 have e1:=e35 n e h.f h.e
 have hm1:=qaR e h.md
 have hf1:=qaL h.f h.e (by have:=h.md.ll;omega)
 have hr:(qaf n e).clock=n.clock∧(qaf n e).jobId=n.jobId∧(qaf n e).items=n.items:=by
  obtain ⟨l,hl⟩:=qaA n e
  rw [hl];exact ⟨rfl,rfl,rfl⟩
 obtain ⟨hc1,hj1,hi1⟩:=hr
 rw [qba (by rw [k];decide) kn (by omega),k,qGy]
 generalize qaf n e=d at *
 have il:=hm1.il
 have e3:=qMi d.items m.items (by omega) h.il (fun x hx=>hm1.ik x hx) h.ik
 rw [qtk k]
 generalize qa0 d.items m.items=q at *
 obtain ⟨l,er⟩:=q
 rw [qah Tryz.func31 rfl rfl Tryz.results31 qkq.1 rfl rfl (by kernel_rfl)]
 simp -implicitDefEqProofs -dsimp +contextual (maxSteps:=9999999) (disch:=first | omega | simp only [go_sem]<;>omega | refine ib ?_;kernel_rfl) only [go_sem,seval,↓reduceIte,e0,e1,e3,k,kn',qct,msZ]
theorem qFI (n:Nd) (e:En) (m:Ms) (h:AnsOk n e m) (kn:¬e.name=n.me.name) (k:m.kind=14):fn C 31 [] [(aNd n),.agg [.str e.name,.int .u64 (e.id:Int),.int .i64 e.fr,.int .i64 e.un,.int .i64 e.ix,.str e.tag],.agg [.int .i64 m.kind,.int .i64 m.rid,.int .i64 m.ver,.int .i64 m.err,.int .u64 (m.id:Int),.bool m.has,.bool m.gone,.str m.key,.str m.val,.slice 6 (m.ents.map En.cs),.slice 4 (m.items.map It.cs)]]=some (qb4 (qaz n e m),[]):=by
 have e0:=qtL m.kind
 rw [k,qGz]at e0
 have kn':=eq_false kn
 have e1:=e35 n e h.f h.e
 have hm1:=qaR e h.md
 have hf1:=qaL h.f h.e (by have:=h.md.ll;omega)
 have hr:(qaf n e).clock=n.clock∧(qaf n e).jobId=n.jobId∧(qaf n e).items=n.items:=by
  obtain ⟨l,hl⟩:=qaA n e
  rw [hl];exact ⟨rfl,rfl,rfl⟩
 obtain ⟨hc1,hj1,hi1⟩:=hr
 rw [qba (by rw [k];decide) kn (by omega),k,qGz]
 generalize qaf n e=d at *
 have il:=hm1.il
 have e3:=qMN d.items m.id e.id h.id h.e.ok.id (by omega) (by rw [hi1];exact h.nk)
 by_cases c:d.ready=true
 ·have ca:(d.ready=true)=True:=eq_true c
  have cb:(d.ready=false)=False:=by rw [c];simp
  rw [qtl k c]
  generalize d.items.filter (inR m.id e.id)=X at *
  by_cases hX:16<X.length
  ·have h16:=eq_true (show 16≤X.length by omega)
   have hX':=eq_true hX
   clear hX
   rw [qah Tryz.func31 rfl rfl Tryz.results31 qkq.1 rfl rfl (by kernel_rfl)]
   simp -implicitDefEqProofs -dsimp +contextual (maxSteps:=9999999) (disch:=first | omega | simp only [go_sem]<;>omega | refine ib ?_;kernel_rfl) only [go_sem,seval,↓reduceIte,e0,e1,e3,k,kn',ca,cb,hX',h16,qct,msZ]
  ·rw [List.take_of_length_le (by omega)]
   have hX':=eq_false hX
   clear hX
   rw [qah Tryz.func31 rfl rfl Tryz.results31 qkq.1 rfl rfl (by kernel_rfl)]
   simp -implicitDefEqProofs -dsimp +contextual (maxSteps:=9999999) (disch:=first | omega | simp only [go_sem]<;>omega | refine ib ?_;kernel_rfl) only [go_sem,seval,↓reduceIte,e0,e1,e3,k,kn',ca,cb,hX',qct,msZ]
 ·have cr:d.ready=false:=by simpa using c
  rw [qnQ k c]
  clear e3 c
  rw [qah Tryz.func31 rfl rfl Tryz.results31 qkq.1 rfl rfl (by kernel_rfl)]
  simp -implicitDefEqProofs -dsimp +contextual (maxSteps:=9999999) (disch:=first | omega | simp only [go_sem]<;>omega | refine ib ?_;kernel_rfl) only [go_sem,seval,↓reduceIte,e0,e1,k,kn',cr,qct,msZ]
theorem qFJ (n:Nd) (e:En) (m:Ms) (h:AnsOk n e m) (kn:¬e.name=n.me.name) (k:m.kind=16):fn C 31 [] [(aNd n),.agg [.str e.name,.int .u64 (e.id:Int),.int .i64 e.fr,.int .i64 e.un,.int .i64 e.ix,.str e.tag],.agg [.int .i64 m.kind,.int .i64 m.rid,.int .i64 m.ver,.int .i64 m.err,.int .u64 (m.id:Int),.bool m.has,.bool m.gone,.str m.key,.str m.val,.slice 6 (m.ents.map En.cs),.slice 4 (m.items.map It.cs)]]=some (qb4 (qaz n e m),[]):=by
 have e0:=qtL m.kind
 rw [k,qJ3]at e0
 have kn':=eq_false kn
 have e2:=e37 n e.name h.f
 rw [qkK kn k]
 generalize qao n e.name=d at *
 rw [qah Tryz.func31 rfl rfl Tryz.results31 qkq.1 rfl rfl (by kernel_rfl)]
 simp -implicitDefEqProofs -dsimp +contextual (maxSteps:=9999999) (disch:=first | omega | simp only [go_sem]<;>omega | refine ib ?_;kernel_rfl) only [go_sem,seval,↓reduceIte,e0,e2,k,kn',qct,msZ]
theorem e31 (n:Nd) (e:En) (m:Ms) (h:AnsOk n e m):fn C 31 [] [(aNd n),.agg [.str e.name,.int .u64 (e.id:Int),.int .i64 e.fr,.int .i64 e.un,.int .i64 e.ix,.str e.tag],.agg [.int .i64 m.kind,.int .i64 m.rid,.int .i64 m.ver,.int .i64 m.err,.int .u64 (m.id:Int),.bool m.has,.bool m.gone,.str m.key,.str m.val,.slice 6 (m.ents.map En.cs),.slice 4 (m.items.map It.cs)]]=some (qb4 (qaz n e m),[]):=by
 have e0:=qtL m.kind
 by_cases k0:qaM m.kind=0
 ·rw [qiV k0]
  rw [k0]at e0
  rw [qah Tryz.func31 rfl rfl Tryz.results31 qkq.1 rfl rfl (by kernel_rfl)]
  simp -implicitDefEqProofs -dsimp +contextual (maxSteps:=9999999) (disch:=first | omega | simp only [go_sem]<;>omega | refine ib ?_;kernel_rfl) only [go_sem,seval,↓reduceIte,e0]
 by_cases kn:e.name=n.me.name
 ·rw [qnO kn]
  have kn':=eq_true kn
  rw [qah Tryz.func31 rfl rfl Tryz.results31 qkq.1 rfl rfl (by kernel_rfl)]
  simp -implicitDefEqProofs -dsimp +contextual (maxSteps:=9999999) (disch:=first | omega | simp only [go_sem]<;>omega | refine ib ?_;kernel_rfl) only [go_sem,seval,↓reduceIte,e0,k0,kn']
 rcases qie k0 with k | k | k | k | k | k | k | k | k
 ·exact qIy n e m h kn k
 ·exact qIz n e m h kn k
 ·exact qIA n e m h kn k
 ·exact qIB n e m h kn k
 ·exact qIC n e m h kn k
 ·exact qFG n e m h kn k
 ·exact qFH n e m h kn k
 ·exact qFI n e m h kn k
 ·exact qFJ n e m h kn k
def qJ8 (f:FuncId):Bool:=decide (f∉[124,122,125])&&decide (f∉[34,36,30,169,170,171,172,173,174,175,176,108,110,6,5,29])&&qHC f
theorem qiW (f:FuncId) (h:qJ8 f=true) (ex ds):fn C3 f ex ds=fn C f ex ds:=by
 simp only [aNd,qJ8,Bool.and_eq_true,decide_eq_true_eq]at h
 exact (qf3 f h.1.1 h.1.2 ex ds).trans (qsJ f h.2 ex ds)
theorem qID (n:Nd) (e:En) (m:Ms) (h:AnsOk n e m) (kn:¬e.name=n.me.name) (k:m.kind=1):fn C3 30 [] [(aNd n),.agg [.str e.name,.int .u64 (e.id:Int),.int .i64 e.fr,.int .i64 e.un,.int .i64 e.ix,.str e.tag],.agg [.int .i64 m.kind,.int .i64 m.rid,.int .i64 m.ver,.int .i64 m.err,.int .u64 (m.id:Int),.bool m.has,.bool m.gone,.str m.key,.str m.val,.slice 6 (m.ents.map En.cs),.slice 4 (m.items.map It.cs)]]=some (qb4 (qaz n e m),[]):=by
 have e0:=(qiW 107 (by decide) [] _).trans (qti m.kind)
 rw [k,ka1]at e0
 have kn':=eq_false kn
 have cp:=qdd n (h.md.le (by omega))
 have e1:=qfS n e (h.md.le (by omega)) h.f h.e
 have hm1:=qaR e h.md
 have hf1:=qaL h.f h.e (by have:=h.md.ll;omega)
 have hr:(qaf n e).clock=n.clock∧(qaf n e).jobId=n.jobId∧(qaf n e).items=n.items:=by
  obtain ⟨l,hl⟩:=qaA n e
  rw [hl];exact ⟨rfl,rfl,rfl⟩
 obtain ⟨hc1,hj1,hi1⟩:=hr
 rw [qba (by rw [k];decide) kn (by omega),k,ka1]
 generalize qaf n e=d at *
 have e3:=qnR d e m { msZ with kind:=2,rid:=m.rid }
 simp only [aNd,uAn,msZ,k,List.map_nil,Int.cast_ofNat_Int]at e3
 rw [qx8 k]
 rw [qah (C:=C3) Tryz.func30 rfl rfl Tryz.results30 (show (C3).M.loc 30=_ from qmv.1) rfl rfl (by kernel_rfl)]
 simp -implicitDefEqProofs -dsimp +contextual (maxSteps:=9999999) (disch:=first | omega | simp only [go_sem]<;>omega | refine ib ?_;kernel_rfl) only [go_sem,seval,↓reduceIte,e0,e1,cp,k,kn']
 rw [qaD (C:=C3) Tryz.func110 rfl Tryz.results110 (show (C3).M.loc 110=_ from qf1.1) (by kernel_rfl)]
 simp -implicitDefEqProofs -dsimp +contextual (maxSteps:=9999999) (disch:=first | omega | simp only [go_sem]<;>omega | refine ib ?_;kernel_rfl) only [go_sem,seval,↓reduceIte,e3,qct,msZ]
theorem qIE (n:Nd) (e:En) (m:Ms) (h:AnsOk n e m) (kn:¬e.name=n.me.name) (k:m.kind=3):fn C3 30 [] [(aNd n),.agg [.str e.name,.int .u64 (e.id:Int),.int .i64 e.fr,.int .i64 e.un,.int .i64 e.ix,.str e.tag],.agg [.int .i64 m.kind,.int .i64 m.rid,.int .i64 m.ver,.int .i64 m.err,.int .u64 (m.id:Int),.bool m.has,.bool m.gone,.str m.key,.str m.val,.slice 6 (m.ents.map En.cs),.slice 4 (m.items.map It.cs)]]=some (qb4 (qaz n e m),[]):=by
 have e0:=(qiW 107 (by decide) [] _).trans (qti m.kind)
 rw [k,ka3]at e0
 have kn':=eq_false kn
 have cp:=qdd n (h.md.le (by omega))
 have e1:=qfS n e (h.md.le (by omega)) h.f h.e
 have hm1:=qaR e h.md
 have hf1:=qaL h.f h.e (by have:=h.md.ll;omega)
 have hr:(qaf n e).clock=n.clock∧(qaf n e).jobId=n.jobId∧(qaf n e).items=n.items:=by
  obtain ⟨l,hl⟩:=qaA n e
  rw [hl];exact ⟨rfl,rfl,rfl⟩
 obtain ⟨hc1,hj1,hi1⟩:=hr
 rw [qba (by rw [k];decide) kn (by omega),k,ka3]
 generalize qaf n e=d at *
 have e3:=qFC d e m { msZ with kind:=4,rid:=m.rid } hf1
 simp only [aNd,uAn,msZ,k,List.map_nil,Int.cast_ofNat_Int]at e3
 rw [qx9 k]
 rw [qah (C:=C3) Tryz.func30 rfl rfl Tryz.results30 (show (C3).M.loc 30=_ from qmv.1) rfl rfl (by kernel_rfl)]
 simp -implicitDefEqProofs -dsimp +contextual (maxSteps:=9999999) (disch:=first | omega | simp only [go_sem]<;>omega | refine ib ?_;kernel_rfl) only [go_sem,seval,↓reduceIte,e0,e1,cp,k,kn']
 rw [qaD (C:=C3) Tryz.func110 rfl Tryz.results110 (show (C3).M.loc 110=_ from qf1.1) (by kernel_rfl)]
 simp -implicitDefEqProofs -dsimp +contextual (maxSteps:=9999999) (disch:=first | omega | simp only [go_sem]<;>omega | refine ib ?_;kernel_rfl) only [go_sem,seval,↓reduceIte,e3,qct,msZ]
theorem qIF (n:Nd) (e:En) (m:Ms) (h:AnsOk n e m) (kn:¬e.name=n.me.name) (k:m.kind=5):fn C3 30 [] [(aNd n),.agg [.str e.name,.int .u64 (e.id:Int),.int .i64 e.fr,.int .i64 e.un,.int .i64 e.ix,.str e.tag],.agg [.int .i64 m.kind,.int .i64 m.rid,.int .i64 m.ver,.int .i64 m.err,.int .u64 (m.id:Int),.bool m.has,.bool m.gone,.str m.key,.str m.val,.slice 6 (m.ents.map En.cs),.slice 4 (m.items.map It.cs)]]=some (qb4 (qaz n e m),[]):=by
 have e0:=(qiW 107 (by decide) [] _).trans (qti m.kind)
 rw [k,ka5]at e0
 have kn':=eq_false kn
 have cp:=qdd n (h.md.le (by omega))
 have e1:=qfS n e (h.md.le (by omega)) h.f h.e
 have hm1:=qaR e h.md
 have hf1:=qaL h.f h.e (by have:=h.md.ll;omega)
 have hr:(qaf n e).clock=n.clock∧(qaf n e).jobId=n.jobId∧(qaf n e).items=n.items:=by
  obtain ⟨l,hl⟩:=qaA n e
  rw [hl];exact ⟨rfl,rfl,rfl⟩
 obtain ⟨hc1,hj1,hi1⟩:=hr
 rw [qba (by rw [k];decide) kn (by omega),k,ka5]
 generalize qaf n e=d at *
 have e3:=qBw d e m { msZ with kind:=2,rid:=m.rid } hf1 h.e
 simp only [aNd,uAn,msZ,k,List.map_nil,Int.cast_ofNat_Int]at e3
 rw [qya k]
 generalize qaE d e=d2 at *
 rw [qah (C:=C3) Tryz.func30 rfl rfl Tryz.results30 (show (C3).M.loc 30=_ from qmv.1) rfl rfl (by kernel_rfl)]
 simp -implicitDefEqProofs -dsimp +contextual (maxSteps:=9999999) (disch:=first | omega | simp only [go_sem]<;>omega | refine ib ?_;kernel_rfl) only [go_sem,seval,↓reduceIte,e0,e1,cp,k,kn']
 rw [qaD (C:=C3) Tryz.func110 rfl Tryz.results110 (show (C3).M.loc 110=_ from qf1.1) (by kernel_rfl)]
 simp -implicitDefEqProofs -dsimp +contextual (maxSteps:=9999999) (disch:=first | omega | simp only [go_sem]<;>omega | refine ib ?_;kernel_rfl) only [go_sem,seval,↓reduceIte,e3,qct,msZ]
theorem qIG (n:Nd) (e:En) (m:Ms) (h:AnsOk n e m) (kn:¬e.name=n.me.name) (k:m.kind=6):fn C3 30 [] [(aNd n),.agg [.str e.name,.int .u64 (e.id:Int),.int .i64 e.fr,.int .i64 e.un,.int .i64 e.ix,.str e.tag],.agg [.int .i64 m.kind,.int .i64 m.rid,.int .i64 m.ver,.int .i64 m.err,.int .u64 (m.id:Int),.bool m.has,.bool m.gone,.str m.key,.str m.val,.slice 6 (m.ents.map En.cs),.slice 4 (m.items.map It.cs)]]=some (qb4 (qaz n e m),[]):=by
 have e0:=(qiW 107 (by decide) [] _).trans (qti m.kind)
 rw [k,ka6]at e0
 have kn':=eq_false kn
 have cp:=qdd n (h.md.le (by omega))
 have e1:=qfS n e (h.md.le (by omega)) h.f h.e
 have hm1:=qaR e h.md
 have hf1:=qaL h.f h.e (by have:=h.md.ll;omega)
 have hr:(qaf n e).clock=n.clock∧(qaf n e).jobId=n.jobId∧(qaf n e).items=n.items:=by
  obtain ⟨l,hl⟩:=qaA n e
  rw [hl];exact ⟨rfl,rfl,rfl⟩
 obtain ⟨hc1,hj1,hi1⟩:=hr
 rw [qba (by rw [k];decide) kn (by omega),k,ka6]
 generalize qaf n e=d at *
 have e3:=qIv d e m { msZ with kind:=7,rid:=m.rid } hf1 h.id
 simp only [aNd,uAn,msZ,k,List.map_nil,Int.cast_ofNat_Int]at e3
 rw [qyb k]
 generalize qbE d.me d.list m.id=o at *
 rw [qah (C:=C3) Tryz.func30 rfl rfl Tryz.results30 (show (C3).M.loc 30=_ from qmv.1) rfl rfl (by kernel_rfl)]
 simp -implicitDefEqProofs -dsimp +contextual (maxSteps:=9999999) (disch:=first | omega | simp only [go_sem]<;>omega | refine ib ?_;kernel_rfl) only [go_sem,seval,↓reduceIte,e0,e1,cp,k,kn']
 rw [qaD (C:=C3) Tryz.func110 rfl Tryz.results110 (show (C3).M.loc 110=_ from qf1.1) (by kernel_rfl)]
 simp -implicitDefEqProofs -dsimp +contextual (maxSteps:=9999999) (disch:=first | omega | simp only [go_sem]<;>omega | refine ib ?_;kernel_rfl) only [go_sem,seval,↓reduceIte,e3,qct,msZ]
theorem qye (n:Nd) (e:En) (m:Ms) (h:AnsOk n e m) (kn:¬e.name=n.me.name) (k:m.kind=10):fn C3 30 [] [(aNd n),.agg [.str e.name,.int .u64 (e.id:Int),.int .i64 e.fr,.int .i64 e.un,.int .i64 e.ix,.str e.tag],.agg [.int .i64 m.kind,.int .i64 m.rid,.int .i64 m.ver,.int .i64 m.err,.int .u64 (m.id:Int),.bool m.has,.bool m.gone,.str m.key,.str m.val,.slice 6 (m.ents.map En.cs),.slice 4 (m.items.map It.cs)]]=some (qb4 (qaz n e m),[]):=by
 have e0:=(qiW 107 (by decide) [] _).trans (qti m.kind)
 rw [k,qGx]at e0
 have kn':=eq_false kn
 have cp:=qdd n (h.md.le (by omega))
 have e1:=qfS n e (h.md.le (by omega)) h.f h.e
 have hm1:=qaR e h.md
 have hf1:=qaL h.f h.e (by have:=h.md.ll;omega)
 have hr:(qaf n e).clock=n.clock∧(qaf n e).jobId=n.jobId∧(qaf n e).items=n.items:=by
  obtain ⟨l,hl⟩:=qaA n e
  rw [hl];exact ⟨rfl,rfl,rfl⟩
 obtain ⟨hc1,hj1,hi1⟩:=hr
 rw [qba (by rw [k];decide) kn (by omega),k,qGx]
 generalize qaf n e=d at *
 have e3:=qMx d e m { msZ with kind:=11,rid:=m.rid } hf1 h.key (Nat.le_trans hm1.il (by decide))
 by_cases c:qd7 d m.key=0
 ·rw [qFF,if_pos c]at e3
  rw [qmT k c]
  generalize qBq _ _=r at *
  simp only [aNd,uAn,msZ,k,List.map_nil,Int.cast_ofNat_Int]at e3
  rw [qah (C:=C3) Tryz.func30 rfl rfl Tryz.results30 (show (C3).M.loc 30=_ from qmv.1) rfl rfl (by kernel_rfl)]
  simp -implicitDefEqProofs -dsimp +contextual (maxSteps:=9999999) (disch:=first | omega | simp only [go_sem]<;>omega | refine ib ?_;kernel_rfl) only [go_sem,seval,↓reduceIte,e0,e1,cp,k,kn']
  rw [qaD (C:=C3) Tryz.func110 rfl Tryz.results110 (show (C3).M.loc 110=_ from qf1.1) (by kernel_rfl)]
  simp -implicitDefEqProofs -dsimp +contextual (maxSteps:=9999999) (disch:=first | omega | simp only [go_sem]<;>omega | refine ib ?_;kernel_rfl) only [go_sem,seval,↓reduceIte,e3,qct]
 ·rw [qFF,if_neg c]at e3
  rw [qnP k c]
  generalize qd7 d m.key=c0 at *
  simp only [aNd,uAn,msZ,k,List.map_nil,Int.cast_ofNat_Int]at e3
  rw [qah (C:=C3) Tryz.func30 rfl rfl Tryz.results30 (show (C3).M.loc 30=_ from qmv.1) rfl rfl (by kernel_rfl)]
  simp -implicitDefEqProofs -dsimp +contextual (maxSteps:=9999999) (disch:=first | omega | simp only [go_sem]<;>omega | refine ib ?_;kernel_rfl) only [go_sem,seval,↓reduceIte,e0,e1,cp,k,kn']
  rw [qaD (C:=C3) Tryz.func110 rfl Tryz.results110 (show (C3).M.loc 110=_ from qf1.1) (by kernel_rfl)]
  simp -implicitDefEqProofs -dsimp +contextual (maxSteps:=9999999) (disch:=first | omega | simp only [go_sem]<;>omega | refine ib ?_;kernel_rfl) only [go_sem,seval,↓reduceIte,e3,qct,msZ]
theorem qFK (n:Nd) (e:En) (m:Ms) (h:AnsOk n e m) (kn:¬e.name=n.me.name) (k:m.kind=12):fn C3 30 [] [(aNd n),.agg [.str e.name,.int .u64 (e.id:Int),.int .i64 e.fr,.int .i64 e.un,.int .i64 e.ix,.str e.tag],.agg [.int .i64 m.kind,.int .i64 m.rid,.int .i64 m.ver,.int .i64 m.err,.int .u64 (m.id:Int),.bool m.has,.bool m.gone,.str m.key,.str m.val,.slice 6 (m.ents.map En.cs),.slice 4 (m.items.map It.cs)]]=some (qb4 (qaz n e m),[]):=by
 have e0:=(qiW 107 (by decide) [] _).trans (qti m.kind)
 rw [k,qGy]at e0
 have kn':=eq_false kn
 have cp:=qdd n (h.md.le (by omega))
 have e1:=qfS n e (h.md.le (by omega)) h.f h.e
 have hm1:=qaR e h.md
 have hf1:=qaL h.f h.e (by have:=h.md.ll;omega)
 have hr:(qaf n e).clock=n.clock∧(qaf n e).jobId=n.jobId∧(qaf n e).items=n.items:=by
  obtain ⟨l,hl⟩:=qaA n e
  rw [hl];exact ⟨rfl,rfl,rfl⟩
 obtain ⟨hc1,hj1,hi1⟩:=hr
 rw [qba (by rw [k];decide) kn (by omega),k,qGy]
 generalize qaf n e=d at *
 have e3:=qIw d e m { msZ with kind:=13,rid:=m.rid } (Nat.le_trans hm1.il (by decide)) h.il h.ik
 simp only [aNd,uAn,msZ,k,List.map_nil,Int.cast_ofNat_Int]at e3
 rw [qtk k]
 generalize qa0 d.items m.items=q at *
 obtain ⟨q1,q2⟩:=q
 rw [qah (C:=C3) Tryz.func30 rfl rfl Tryz.results30 (show (C3).M.loc 30=_ from qmv.1) rfl rfl (by kernel_rfl)]
 simp -implicitDefEqProofs -dsimp +contextual (maxSteps:=9999999) (disch:=first | omega | simp only [go_sem]<;>omega | refine ib ?_;kernel_rfl) only [go_sem,seval,↓reduceIte,e0,e1,cp,k,kn']
 rw [qaD (C:=C3) Tryz.func110 rfl Tryz.results110 (show (C3).M.loc 110=_ from qf1.1) (by kernel_rfl)]
 simp -implicitDefEqProofs -dsimp +contextual (maxSteps:=9999999) (disch:=first | omega | simp only [go_sem]<;>omega | refine ib ?_;kernel_rfl) only [go_sem,seval,↓reduceIte,e3,qct,msZ]
theorem qFL (n:Nd) (e:En) (m:Ms) (h:AnsOk n e m) (kn:¬e.name=n.me.name) (k:m.kind=14):fn C3 30 [] [(aNd n),.agg [.str e.name,.int .u64 (e.id:Int),.int .i64 e.fr,.int .i64 e.un,.int .i64 e.ix,.str e.tag],.agg [.int .i64 m.kind,.int .i64 m.rid,.int .i64 m.ver,.int .i64 m.err,.int .u64 (m.id:Int),.bool m.has,.bool m.gone,.str m.key,.str m.val,.slice 6 (m.ents.map En.cs),.slice 4 (m.items.map It.cs)]]=some (qb4 (qaz n e m),[]):=by
 have e0:=(qiW 107 (by decide) [] _).trans (qti m.kind)
 rw [k,qGz]at e0
 have kn':=eq_false kn
 have cp:=qdd n (h.md.le (by omega))
 have e1:=qfS n e (h.md.le (by omega)) h.f h.e
 have hm1:=qaR e h.md
 have hf1:=qaL h.f h.e (by have:=h.md.ll;omega)
 have hr:(qaf n e).clock=n.clock∧(qaf n e).jobId=n.jobId∧(qaf n e).items=n.items:=by
  obtain ⟨l,hl⟩:=qaA n e
  rw [hl];exact ⟨rfl,rfl,rfl⟩
 obtain ⟨hc1,hj1,hi1⟩:=hr
 rw [qba (by rw [k];decide) kn (by omega),k,qGz]
 generalize qaf n e=d at *
 have e3:=qIx d e m { msZ with kind:=15,rid:=m.rid } (Nat.le_trans hm1.il (by decide)) (by rw [hi1];exact h.nk) h.id h.e.ok.id
 by_cases c:d.ready=true
 ·rw [qto,if_pos c]at e3
  rw [qtl k c]
  generalize List.take 16 _=X at *
  simp only [aNd,uAn,msZ,k,List.map_nil,Int.cast_ofNat_Int]at e3
  rw [qah (C:=C3) Tryz.func30 rfl rfl Tryz.results30 (show (C3).M.loc 30=_ from qmv.1) rfl rfl (by kernel_rfl)]
  simp -implicitDefEqProofs -dsimp +contextual (maxSteps:=9999999) (disch:=first | omega | simp only [go_sem]<;>omega | refine ib ?_;kernel_rfl) only [go_sem,seval,↓reduceIte,e0,e1,cp,k,kn']
  rw [qaD (C:=C3) Tryz.func110 rfl Tryz.results110 (show (C3).M.loc 110=_ from qf1.1) (by kernel_rfl)]
  simp -implicitDefEqProofs -dsimp +contextual (maxSteps:=9999999) (disch:=first | omega | simp only [go_sem]<;>omega | refine ib ?_;kernel_rfl) only [go_sem,seval,↓reduceIte,e3,qct,msZ]
 ·rw [qto,if_neg c]at e3
  rw [qnQ k c]
  simp only [aNd,uAn,msZ,k,List.map_nil,Int.cast_ofNat_Int]at e3
  rw [qah (C:=C3) Tryz.func30 rfl rfl Tryz.results30 (show (C3).M.loc 30=_ from qmv.1) rfl rfl (by kernel_rfl)]
  simp -implicitDefEqProofs -dsimp +contextual (maxSteps:=9999999) (disch:=first | omega | simp only [go_sem]<;>omega | refine ib ?_;kernel_rfl) only [go_sem,seval,↓reduceIte,e0,e1,cp,k,kn']
  rw [qaD (C:=C3) Tryz.func110 rfl Tryz.results110 (show (C3).M.loc 110=_ from qf1.1) (by kernel_rfl)]
  simp -implicitDefEqProofs -dsimp +contextual (maxSteps:=9999999) (disch:=first | omega | simp only [go_sem]<;>omega | refine ib ?_;kernel_rfl) only [go_sem,seval,↓reduceIte,e3,qct,msZ]
theorem qFM (n:Nd) (e:En) (m:Ms) (h:AnsOk n e m) (kn:¬e.name=n.me.name) (k:m.kind=16):fn C3 30 [] [(aNd n),.agg [.str e.name,.int .u64 (e.id:Int),.int .i64 e.fr,.int .i64 e.un,.int .i64 e.ix,.str e.tag],.agg [.int .i64 m.kind,.int .i64 m.rid,.int .i64 m.ver,.int .i64 m.err,.int .u64 (m.id:Int),.bool m.has,.bool m.gone,.str m.key,.str m.val,.slice 6 (m.ents.map En.cs),.slice 4 (m.items.map It.cs)]]=some (qb4 (qaz n e m),[]):=by
 have e0:=(qiW 107 (by decide) [] _).trans (qti m.kind)
 rw [k,qJ3]at e0
 have kn':=eq_false kn
 have cp:=qdd n (h.md.le (by omega))
 have e3:=qFD n e m { msZ with kind:=2,rid:=m.rid } (h.md.le (by omega))
 simp only [aNd,uAn,msZ,k,List.map_nil,Int.cast_ofNat_Int]at e3
 rw [qkK kn k]
 generalize qao n e.name=d at *
 rw [qah (C:=C3) Tryz.func30 rfl rfl Tryz.results30 (show (C3).M.loc 30=_ from qmv.1) rfl rfl (by kernel_rfl)]
 simp -implicitDefEqProofs -dsimp +contextual (maxSteps:=9999999) (disch:=first | omega | simp only [go_sem]<;>omega | refine ib ?_;kernel_rfl) only [go_sem,seval,↓reduceIte,e0,cp,k,kn']
 rw [qaD (C:=C3) Tryz.func110 rfl Tryz.results110 (show (C3).M.loc 110=_ from qf1.1) (by kernel_rfl)]
 simp -implicitDefEqProofs -dsimp +contextual (maxSteps:=9999999) (disch:=first | omega | simp only [go_sem]<;>omega | refine ib ?_;kernel_rfl) only [go_sem,seval,↓reduceIte,e3,qct,msZ]
theorem qIH (n:Nd) (e:En) (m:Ms) (h:AnsOk n e m) (kn:¬e.name=n.me.name) (k:m.kind=8):fn C3 30 [] [(aNd n),.agg [.str e.name,.int .u64 (e.id:Int),.int .i64 e.fr,.int .i64 e.un,.int .i64 e.ix,.str e.tag],.agg [.int .i64 m.kind,.int .i64 m.rid,.int .i64 m.ver,.int .i64 m.err,.int .u64 (m.id:Int),.bool m.has,.bool m.gone,.str m.key,.str m.val,.slice 6 (m.ents.map En.cs),.slice 4 (m.items.map It.cs)]]=some (qb4 (qaz n e m),[]):=by
 have e0:=(qiW 107 (by decide) [] _).trans (qti m.kind)
 rw [k,ka8]at e0
 have kn':=eq_false kn
 have cp:=qdd n (h.md.le (by omega))
 have e1:=qfS n e (h.md.le (by omega)) h.f h.e
 have hm1:=qaR e h.md
 have hf1:=qaL h.f h.e (by have:=h.md.ll;omega)
 have hr:(qaf n e).clock=n.clock∧(qaf n e).jobId=n.jobId∧(qaf n e).items=n.items:=by
  obtain ⟨l,hl⟩:=qaA n e
  rw [hl];exact ⟨rfl,rfl,rfl⟩
 obtain ⟨hc1,hj1,hi1⟩:=hr
 rw [qba (by rw [k];decide) kn (by omega),k,ka8]
 generalize qaf n e=d at *
 have e3:=qJ7 d e m { msZ with kind:=9,rid:=m.rid } hf1 h.key
 by_cases c:qd7 d m.key=0
 ·rw [qyd,if_pos c,decide_eq_true c]at e3
  rw [qyc k c]
  simp only [aNd,uAn,msZ,k,List.map_nil,Int.cast_ofNat_Int]at e3
  have b:=(qf3 109 (by decide) (by decide) [] _).trans (qE2 d m.key m.val m.gone e m.rid 0 (hm1.le (by omega)) (Nat.le_trans h.key (by decide)) (by rw [hc1];exact h.clock))
  generalize qdX d m.key m.val m.gone e m.rid 0=q at *
  obtain ⟨d2,acts⟩:=q
  unfold qmy at b
  rw [Nd.ocs_eq]at b
  rw [qah (C:=C3) Tryz.func30 rfl rfl Tryz.results30 (show (C3).M.loc 30=_ from qmv.1) rfl rfl (by kernel_rfl)]
  simp -implicitDefEqProofs -dsimp +contextual (maxSteps:=9999999) (disch:=first | omega | simp only [go_sem]<;>omega | refine ib ?_;kernel_rfl) only [go_sem,seval,↓reduceIte,e0,e1,cp,k,kn',e3,b]
 ·rw [qyd,if_neg c,decide_eq_false c]at e3
  rw [qtj k c]
  have e4:=qnR d e m { msZ with kind:=9,rid:=m.rid,err:=qd7 d m.key }
  generalize qd7 d m.key=c0 at *
  simp only [aNd,uAn,msZ,k,List.map_nil,Int.cast_ofNat_Int]at e3 e4
  rw [qah (C:=C3) Tryz.func30 rfl rfl Tryz.results30 (show (C3).M.loc 30=_ from qmv.1) rfl rfl (by kernel_rfl)]
  simp -implicitDefEqProofs -dsimp +contextual (maxSteps:=9999999) (disch:=first | omega | simp only [go_sem]<;>omega | refine ib ?_;kernel_rfl) only [go_sem,seval,↓reduceIte,e0,e1,cp,k,kn',e3]
  rw [qaD (C:=C3) Tryz.func110 rfl Tryz.results110 (show (C3).M.loc 110=_ from qf1.1) (by kernel_rfl)]
  simp -implicitDefEqProofs -dsimp +contextual (maxSteps:=9999999) (disch:=first | omega | simp only [go_sem]<;>omega | refine ib ?_;kernel_rfl) only [go_sem,seval,↓reduceIte,e4,qct,msZ]
theorem qnS (n:Nd) (e:En) (m:Ms) (h:AnsOk n e m) (k0:qaM m.kind=0):fn C3 30 [] [(aNd n),.agg [.str e.name,.int .u64 (e.id:Int),.int .i64 e.fr,.int .i64 e.un,.int .i64 e.ix,.str e.tag],.agg [.int .i64 m.kind,.int .i64 m.rid,.int .i64 m.ver,.int .i64 m.err,.int .u64 (m.id:Int),.bool m.has,.bool m.gone,.str m.key,.str m.val,.slice 6 (m.ents.map En.cs),.slice 4 (m.items.map It.cs)]]=some (qb4 (qaz n e m),[]):=by
 have e0:=(qiW 107 (by decide) [] _).trans (qti m.kind)
 have cp:=qdd n (h.md.le (by omega))
 rw [qiV k0]
 rw [k0]at e0
 rw [qah (C:=C3) Tryz.func30 rfl rfl Tryz.results30 (show (C3).M.loc 30=_ from qmv.1) rfl rfl (by kernel_rfl)]
 simp -implicitDefEqProofs -dsimp +contextual (maxSteps:=9999999) (disch:=first | omega | simp only [go_sem]<;>omega | refine ib ?_;kernel_rfl) only [go_sem,seval,↓reduceIte,e0,cp]
theorem qBx (n:Nd) (e:En) (m:Ms) (h:AnsOk n e m):fn C3 30 [] [(aNd n),.agg [.str e.name,.int .u64 (e.id:Int),.int .i64 e.fr,.int .i64 e.un,.int .i64 e.ix,.str e.tag],.agg [.int .i64 m.kind,.int .i64 m.rid,.int .i64 m.ver,.int .i64 m.err,.int .u64 (m.id:Int),.bool m.has,.bool m.gone,.str m.key,.str m.val,.slice 6 (m.ents.map En.cs),.slice 4 (m.items.map It.cs)]]=some (qb4 (qaz n e m),[]):=by
 have e0:=(qiW 107 (by decide) [] _).trans (qti m.kind)
 have cp:=qdd n (h.md.le (by omega))
 by_cases k0:qaM m.kind=0
 ·exact qnS n e m h k0
 by_cases kn:e.name=n.me.name
 ·rw [qnO kn]
  have kn':=eq_true kn
  rw [qah (C:=C3) Tryz.func30 rfl rfl Tryz.results30 (show (C3).M.loc 30=_ from qmv.1) rfl rfl (by kernel_rfl)]
  simp -implicitDefEqProofs -dsimp +contextual (maxSteps:=9999999) (disch:=first | omega | simp only [go_sem]<;>omega | refine ib ?_;kernel_rfl) only [go_sem,seval,↓reduceIte,e0,k0,kn',cp]
 rcases qie k0 with k | k | k | k | k | k | k | k | k
 ·exact qID n e m h kn k
 ·exact qIE n e m h kn k
 ·exact qIF n e m h kn k
 ·exact qIG n e m h kn k
 ·exact qIH n e m h kn k
 ·exact qye n e m h kn k
 ·exact qFK n e m h kn k
 ·exact qFL n e m h kn k
 ·exact qFM n e m h kn k
theorem qtp (key:Nat) (l:List Pr) (hp:∀p∈l,p.e.fit) (me:En) (hm:me.fit):(qbE me l key).fit:=by
 rw [qgT]
 induction l generalizing me with
 | nil=>exact hm
 | cons p l ih=>
  refine ih (fun q hq=>hp q (List.mem_cons_of_mem _ hq)) _ ?_
  unfold qex
  split
  ·exact hp p (List.mem_cons_self ..)
  ·exact hm
theorem qmV {n:Nd} {k:Nat} (e:En) (h:n.good k) (hk:1≤k):(qaE n e).good k:=by
 unfold qaE
 split
 ·split
  ·have m:=h.m
   exact ⟨⟨by show [_].length≤k;exact hk,m.ll,m.fl,m.sl,m.dl,m.il,m.jl,m.wl,m.rl,m.pe,m.pi,m.ja,m.ik⟩,h.d,h.j⟩
  ·exact h
 ·exact h
theorem qtq (k r:Int):({ msZ with kind:=k,rid:=r }:Ms).fit:=⟨Nat.zero_le _,Nat.zero_le _,Nat.zero_le _,Nat.zero_le _,fun e he=>by simp [msZ]at he,fun x hx=>by simp [msZ]at hx⟩
theorem qkL {e:En} {r:Ms} (h:r.fit):qeG 100 (qct e r):=(qeG.one (a:=⟨true,e,r,0,0⟩) h).le (by omega)
theorem qxl {l:List It} (h:∀x∈l,x.fit) (k:List UInt8):(qdE l k).1.fit:=by
 unfold qdE
 split
 ·rename_i x hx;exact h x (List.mem_of_find?_eq_some hx)
 ·exact ⟨Nat.zero_le _,Nat.zero_le _⟩
structure Nd.fitE (n:Nd):Prop where
 me:n.me.fit
 l:∀p∈n.list,p.e.fit
 p:∀p∈n.pred,p.e.fit
 i:∀x∈n.items,x.fit
theorem qp1 {n:Nd} {e:En} (h:n.fitE) (he:e.fit):(qaf n e).fitE:=by
 unfold qaf
 split
 ·rename_i hv
  refine ⟨h.me,fun p hp=>?_,h.p,h.i⟩
  rcases qnM hp with hp | rfl
  ·exact h.l p hp
  ·rw [qd8 _ _ _ _ hv];exact he
 ·exact h
theorem qp2 {n:Nd} (h:n.fitE):∀e∈qdB n,e.fit:=by
 intro e he
 rw [qdB]at he
 rcases List.mem_append.1 he with he | he
 ·obtain ⟨p,hp,rfl⟩:=List.mem_map.1 he
  exact h.p p (List.mem_of_mem_take hp)
 ·obtain ⟨p,hp,rfl⟩:=List.mem_map.1 he
  exact h.l p hp
theorem qp3 (n:Nd):(qdB n).length≤1+n.list.length:=by
 rw [qdB];simp;omega
theorem qp4 {h:Nd} {k:Nat} (e:En) (m r:Ms) (g:h.good k) (f:h.fitE) (hr:r.fit) (hk:m.key.length≤9223372036854775807) (hv:m.val.length≤9223372036854775807) (h1:16≤k) (h2:k≤1000) (hm:m.items.length≤1000000):(qbj h e m r).1.cmp∧qeG 2000 (qbj h e m r).2:=by
 have gl:=g.m.ll
 have gil:=g.m.il
 have c:h.cmp:=g.m.cmp (Nat.le_trans h2 (by decide)) g.d
 have A:∀{r:Ms},r.fit→qeG 2000 (qct e r):=fun hr=>(qkL hr).le (by omega)
 unfold qbj
 split
 ·refine ⟨c,A ⟨hr.k,hr.v,?_,hr.i,qp2 f,hr.is⟩⟩
  have:=qp3 h
  show (qdB h).length≤9223372036854775807
  omega
 split
 ·have g2:=qmV e g (by omega)
  exact ⟨g2.m.cmp (Nat.le_trans h2 (by decide)) g2.d,A hr⟩
 split
 ·refine ⟨c,A ⟨hr.k,hr.v,by simp,hr.i,fun x hx=>?_,hr.is⟩⟩
  simp only [List.mem_singleton]at hx
  subst hx
  exact qtp _ _ f.l _ f.me
 split
 ·split
  ·have b:=qpX m.key m.val m.gone e m.rid 0 hk hv g h1
   exact ⟨b.1.m.cmp (by omega) b.1.d,b.2.le (by omega)⟩
  ·exact ⟨c,A ⟨hr.k,hr.v,hr.e,hr.i,hr.es,hr.is⟩⟩
 split
 ·split
  ·refine ⟨c,A ?_⟩
   rw [qBq]
   split
   ·have:=(qxl f.i m.key).v
    exact ⟨hr.k,this,hr.e,hr.i,hr.es,hr.is⟩
   ·exact hr
  ·exact ⟨c,A ⟨hr.k,hr.v,hr.e,hr.i,hr.es,hr.is⟩⟩
 split
 ·refine ⟨qtn _ g (Nat.le_trans h2 (by decide)) ?_,A ⟨hr.k,hr.v,hr.e,hr.i,hr.es,hr.is⟩⟩
  have:=qfB h.items m.items
  omega
 split
 ·split
  ·refine ⟨c,A ⟨hr.k,hr.v,hr.e,?_,hr.es,fun x hx=>f.i x (List.mem_filter.1 (List.mem_of_mem_take hx)).1⟩⟩
   show (List.take 16 _).length≤9223372036854775807
   have:=List.length_take_le 16 (h.items.filter (inR m.id e.id))
   omega
  ·exact ⟨c,A ⟨hr.k,hr.v,hr.e,hr.i,hr.es,hr.is⟩⟩
 ·exact ⟨c,A hr⟩
theorem qmW {n:Nd} (e:En) (m:Ms) (g:n.good 70) (f:n.fitE) (he:e.fit) (hk:m.key.length≤9223372036854775807) (hv:m.val.length≤9223372036854775807) (hm:m.items.length≤1000000):(qaz n e m).1.cmp∧qeG 2000 (qaz n e m).2:=by
 have c:n.cmp:=g.m.cmp (by decide) g.d
 have N:qeG 2000 []:=qeG.nil _
 unfold qaz
 split
 ·exact ⟨c,N⟩
 split
 ·exact ⟨c,N⟩
 split
 ·have g2:=qmU e.name g
  exact ⟨g2.m.cmp (by decide) g2.d,(qkL (qtq _ _)).le (by omega)⟩
 ·exact qp4 e m _ (qp0 e g) (qp1 f he) (qtq _ _) hk hv (by omega) (by omega) hm
theorem qBy {n:Nd} (h:n.fit):n.fitE:=⟨h.me,fun p hp=>(h.l p hp).l,fun p hp=>(h.p p hp).l,h.i⟩
theorem qFN {n:Nd} {e:En} {m:Ms} (g:qbn n=false) (ho:n.ok) (ge:qbm e=false) (he:e.ok) (gm:qcs m=false) (hm:m.ok) (hc:0≤n.clock∧n.clock≤1099511627776):AnsOk n e m:=by
 have s:=qg2 g
 have t:=qkD gm
 have h1:=t.k;have h2:=t.v;have h3:=t.i
 exact ⟨s.mid.le (by omega),qBu g ho,qBv ge he,by omega,by omega,hc,ho.jobId,by omega,fun x hx=>by have:=(t.is x hx).k;omega,hm.id,fun x hx=>by have:=(s.i x hx).k;omega⟩
@[go_sem] theorem qyf (ex ds):fn C3 10 ex ds=fn C 10 ex ds:=qiW _ (by decide) ex ds
@[go_sem] theorem qBz (ex ds):fn C3 11 ex ds=fn C 11 ex ds:=qiW _ (by decide) ex ds
@[go_sem] theorem qyg (ex ds):fn C3 22 ex ds=fn C 22 ex ds:=qiW _ (by decide) ex ds
@[go_sem] theorem qtM (ex ds):fn C3 13 ex ds=fn C 13 ex ds:=qiW _ (by decide) ex ds
@[go_sem] theorem qxm (ex ds):fn C3 31 ex ds=fn C 31 ex ds:=qiW _ (by decide) ex ds
@[go_sem] theorem qxn (ex ds):fn C3 38 ex ds=fn C 38 ex ds:=qiW _ (by decide) ex ds
@[go_sem] theorem qBA (ex ds):fn C3 18 ex ds=fn C 18 ex ds:=qiW _ (by decide) ex ds
@[go_sem] theorem qBB (ex ds):fn C3 19 ex ds=fn C 19 ex ds:=qiW _ (by decide) ex ds
def qJ9:En:={ enZ with name:=[97] }
def qhf:Nd:={ ndZ with me:=qJ9,ready:=true }
def msG:Ms:={ msZ with kind:=10,rid:=3,key:=[107] }
theorem qBC:qe4 enB=false:=by simp [qe4,enB,enZ]
theorem qBD:qaf qhf enB=qhf:=by
 unfold qaf qcn
 rw [qBC]
 rfl
theorem qyh (k:List UInt8):qiU qhf k=true:=by
 unfold qiU;exact decide_eq_true rfl
theorem qMy:qaz qhf enB msG=(qhf,qct enB { msZ with kind:=11,rid:=3 }):=by
 rw [qba (by decide) (by decide) (by decide),qBD,qmT rfl (by rw [qd7,if_pos (show qhf.ready=true from rfl),if_pos (qyh _)])]
 rfl
theorem qMz:qaz qhf enB { msZ with kind:=2 }=(qhf,[]):=qiV rfl
theorem qxo:qhf.mid 0:=⟨Nat.zero_le _,Nat.zero_le _,Nat.zero_le _,Nat.zero_le _,Nat.zero_le _,Nat.zero_le _,Nat.zero_le _,Nat.zero_le _,Nat.zero_le _,fun p hp=>by simp [qhf,ndZ]at hp,fun p hp=>by simp [qhf,ndZ]at hp,fun p hp=>by simp [qhf,ndZ]at hp,fun p hp=>by simp [qhf,ndZ]at hp⟩
theorem qkM:qhf.fine:=⟨by decide,by decide,by decide,by decide,by decide,fun p hp=>by simp [qhf,ndZ]at hp,fun p hp=>by simp [qhf,ndZ]at hp⟩
theorem qxp:enB.fine:=⟨⟨by decide,by decide,by decide,by decide,by decide,by decide,by decide⟩,by decide,by decide⟩
theorem qFO (m:Ms) (h:m.key.length≤10000) (h2:m.val.length≤9223372036854775807) (h3:m.items=[]) (h4:m.id=0):AnsOk qhf enB m:=
 ⟨qxo.le (by omega),qkM,qxp,h,h2,by decide,by decide,(by rw [h3];decide),(fun x hx=>by rw [h3]at hx;simp at hx),(by rw [h4];decide),(fun x hx=>by simp [qhf,ndZ]at hx)⟩
theorem e29:fn C3 29 [] []=some (.bool true,[]):=by
 have b1:=qye qhf enB msG (qFO _ (by decide) (by decide) rfl rfl) (by decide) rfl
 have b2:=qnS qhf enB { msZ with kind:=2 } (qFO _ (by decide) (by decide) rfl rfl) rfl
 have b3:=e38 qhf [107] qkM (by decide)
 rw [qyh]at b3
 rw [qMy]at b1
 rw [qMz]at b2
 simp only [aNd,qb4,Nd.cs,qhf,qJ9,msG,qct,ndZ,enZ,enB,msZ,List.map_nil,List.map_cons,En.cs,Ac.cs,Ms.cs,It.cs,qaG,Int.cast_ofNat_Int]at b1 b2 b3
 rw [qaa (C:=C3) Tryz.func29 rfl rfl Tryz.results29 (show (C3).M.loc 29=_ from qI3.1) rfl rfl (by kernel_rfl)]
 simp -implicitDefEqProofs -dsimp +contextual (maxSteps:=9999999) (disch:=first | omega | simp only [go_sem]<;>omega | refine ib ?_;kernel_rfl) only [go_sem,seval,↓reduceIte,b1,b2,b3]
theorem qFP {n:Nd} {m:Ms} (h:0≤n.clock∧n.clock≤1099511627776) (g:qcs m=false):(decide (n.clock<0)|| decide (1099511627776<n.clock)|| qcs m)=false:=by simp [g];omega
theorem qFQ {n:Nd} {m:Ms} (h:¬(0≤n.clock∧n.clock≤1099511627776)):(decide (n.clock<0)|| decide (1099511627776<n.clock)|| qcs m)=true:=by
 have:=qIp h;simp [this]
theorem qFR {n:Nd} {m:Ms} (g:qcs m=true):(decide (n.clock<0)|| decide (1099511627776<n.clock)|| qcs m)=true:=by simp [g]
theorem e5 (n:Nd) (e:En) (m:Ms) (ho:n.ok) (hf:n.fit) (he:e.ok) (hef:e.fit) (hm:m.ok) (hmf:m.fit):fn C3 5 [] [(aNd n),.agg [.str e.name,.int .u64 (e.id:Int),.int .i64 e.fr,.int .i64 e.un,.int .i64 e.ix,.str e.tag],.agg [.int .i64 m.kind,.int .i64 m.rid,.int .i64 m.ver,.int .i64 m.err,.int .u64 (m.id:Int),.bool m.has,.bool m.gone,.str m.key,.str m.val,.slice 6 (m.ents.map En.cs),.slice 4 (m.items.map It.cs)]]=some (.bool true,[]):=by
 have gr:=e10 n hf
 have hu:=e11 n m hmf
 have lg:=e22 e hef.n hef.t
 have wk:=e29
 rcases Bool.eq_false_or_eq_true (qbn n)with g | g
 ·rw [g]at gr
  rw [qaa (C:=C3) Tryz.func5 rfl rfl Tryz.results5 (show (C3).M.loc 5=_ from fq5.1) rfl rfl (by kernel_rfl)]
  simp -implicitDefEqProofs -dsimp +contextual (maxSteps:=9999999) (disch:=first | omega | simp only [go_sem]<;>omega | refine ib ?_;kernel_rfl) only [go_sem,seval,↓reduceIte,gr,wk]
 rw [g]at gr
 by_cases hc:¬(0≤n.clock∧n.clock≤1099511627776)
 ·rw [qFQ hc]at hu
  rw [qaa (C:=C3) Tryz.func5 rfl rfl Tryz.results5 (show (C3).M.loc 5=_ from fq5.1) rfl rfl (by kernel_rfl)]
  simp -implicitDefEqProofs -dsimp +contextual (maxSteps:=9999999) (disch:=first | omega | simp only [go_sem]<;>omega | refine ib ?_;kernel_rfl) only [go_sem,seval,↓reduceIte,gr,wk,hu]
 have hc:=Decidable.not_not.1 hc
 rcases Bool.eq_false_or_eq_true (qcs m)with gm | gm
 ·rw [qFR gm]at hu
  rw [qaa (C:=C3) Tryz.func5 rfl rfl Tryz.results5 (show (C3).M.loc 5=_ from fq5.1) rfl rfl (by kernel_rfl)]
  simp -implicitDefEqProofs -dsimp +contextual (maxSteps:=9999999) (disch:=first | omega | simp only [go_sem]<;>omega | refine ib ?_;kernel_rfl) only [go_sem,seval,↓reduceIte,gr,wk,hu]
 rw [qFP hc gm]at hu
 rcases Bool.eq_false_or_eq_true (qbm e)with ge | ge
 ·rw [ge]at lg
  rw [qaa (C:=C3) Tryz.func5 rfl rfl Tryz.results5 (show (C3).M.loc 5=_ from fq5.1) rfl rfl (by kernel_rfl)]
  simp -implicitDefEqProofs -dsimp +contextual (maxSteps:=9999999) (disch:=first | omega | simp only [go_sem]<;>omega | refine ib ?_;kernel_rfl) only [go_sem,seval,↓reduceIte,gr,wk,hu,lg]
 rw [ge]at lg
 have cp:=e13 n ((qtc g).le (by omega))
 have ok:=qFN (m:=m) g ho ge he gm hm hc
 have b1:=qBx n e m ok
 have b2:=e31 n e m ok
 have s0:=qFz n ((qtc g).cmp (by decide) hf.d)
 have gd:=qmW e m (qBg g hf) (qBy hf) hef hmf.k hmf.v (Nat.le_trans ok.il (by omega))
 generalize qaz n e m=q at b1 b2 gd
 obtain ⟨d,acts⟩:=q
 have s1:=qFz d gd.1
 have s2:=qIq acts gd.2 (by decide)
 unfold qb4 at b1 b2
 rw [Nd.cs]at b1 b2
 rw [qaa (C:=C3) Tryz.func5 rfl rfl Tryz.results5 (show (C3).M.loc 5=_ from fq5.1) rfl rfl (by kernel_rfl)]
 simp -implicitDefEqProofs -dsimp +contextual (maxSteps:=9999999) (disch:=first | omega | simp only [go_sem]<;>omega | refine ib ?_;kernel_rfl) only [go_sem,seval,↓reduceIte,gr,wk,hu,lg,cp,b1,b2,s0,s1,s2]
end Go.Proofs.YtnpkhdjgedeppaaGreatDoor
