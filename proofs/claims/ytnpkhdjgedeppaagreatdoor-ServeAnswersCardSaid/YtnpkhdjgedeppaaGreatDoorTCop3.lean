import Derived.Test.YtnpkhdjgedeppaaGreatDoorTText
namespace Go.Proofs.YtnpkhdjgedeppaaGreatDoor
set_option maxHeartbeats 64000000
open Go.Am
set_option linter.unusedSimpArgs false
set_option linter.unusedVariables false
set_option maxRecDepth 100000
theorem qkv (l:List Rs) (a b c e:Int) (k v:List UInt8) (x g:Bool):l.map Rs.cs++[[.int .i64 a,.int .i64 b,.int .i64 c,.str k,.str v,.bool x,.bool g,.int .i64 e]]=(l++[(⟨a,b,c,k,v,x,g,e⟩:Rs)]).map Rs.cs:=by rw [List.map_append];rfl
theorem qA1 (n:Nd) (A:AVal) (acts:List Ac) (hA:AcC A acts) (id:Int) (x:It) (has:Bool) (e:Int) (h:n.mid 1000000):fn C 155 [] [.uptr [.str n.me.name,.int .u64 (n.me.id:Int),.int .i64 n.me.fr,.int .i64 n.me.un,.int .i64 n.me.ix,.str n.me.tag,.int .i64 n.clock,.str n.psk,.int .i64 n.gateI,.str n.gateK,.bool n.ready,.slice 8 (n.pred.map Pr.cs),.slice 8 (n.list.map Pr.cs),.slice 9 (n.fingers.map Fg.cs),.usl 20 (n.sessions.map Se.cs),.usl 23 (n.pends.map Pd.cs),.slice 4 (n.items.map It.cs),.usl 29 (n.jobs.map Jb.cs),.int .i64 n.rid,.int .i64 n.jobId,.slice 1 (n.draws.map qaw),.usl 8 (n.results.map Rs.cs),A],.int .i64 id,.agg [.str x.k,.str x.v,.int .i64 x.n,.bool x.g],.bool has,.int .i64 e]=
  some (.tup [],[.uptr [.str n.me.name,.int .u64 (n.me.id:Int),.int .i64 n.me.fr,.int .i64 n.me.un,.int .i64 n.me.ix,.str n.me.tag,.int .i64 n.clock,.str n.psk,.int .i64 n.gateI,.str n.gateK,.bool n.ready,.slice 8 (n.pred.map Pr.cs),.slice 8 (n.list.map Pr.cs),.slice 9 (n.fingers.map Fg.cs),.usl 20 (n.sessions.map Se.cs),.usl 23 (n.pends.map Pd.cs),.slice 4 (n.items.map It.cs),.usl 29 ((qaW n id x has e).jobs.map Jb.cs),.int .i64 n.rid,.int .i64 n.jobId,.slice 1 (n.draws.map qaw),.usl 8 ((qaW n id x has e).results.map Rs.cs),A]]):=by
 have jl:=h.jl;have rl:=h.rl
 rcases qch n.jobs id with ⟨i,hi,hid,_,hf⟩|⟨_,hf⟩
 ·have drp:=qi1 n A acts hA i hi (h.le (by omega))
  have hs:qaW n id x has e={ n with jobs:=n.jobs.eraseIdx i,results:=qm3 (n.results++[qFX id n.jobs[i] x has e]) }:=by
   unfold qaW;rw [hf,if_pos (by omega),Int.toNat_natCast,qdu hi]
  rw [hs]
  simp only [qm3,List.length_append,List.length_singleton,qFX]
  by_cases hc:16≤n.results.length
  ·have dd:(if 0<n.results.length - 15 then ((n.results.length - 15:Nat):Int) else 0).toNat=n.results.length - 15:=by split<;>omega
   rcases hA with _ | l
   ·rw [qaa Tryz.func155 rfl rfl Tryz.results155 qmw.1 rfl rfl (by kernel_rfl)]
    simp -implicitDefEqProofs -dsimp +contextual (maxSteps:=9999999) (disch:=first | omega | simp only [go_sem]<;>omega | refine ib ?_;kernel_rfl) only [go_sem,seval,↓reduceIte,drp,hf,hi,hid,hc,qkv]
    rw [dd]
   ·rw [qaa Tryz.func155 rfl rfl Tryz.results155 qmw.1 rfl rfl (by kernel_rfl)]
    simp -implicitDefEqProofs -dsimp +contextual (maxSteps:=9999999) (disch:=first | omega | simp only [go_sem]<;>omega | refine ib ?_;kernel_rfl) only [go_sem,seval,↓reduceIte,drp,hf,hi,hid,hc,qkv]
    rw [dd]
  ·rw [show n.results.length+1 - 16=0 from by omega,List.drop_zero]
   rcases hA with _ | l
   ·rw [qaa Tryz.func155 rfl rfl Tryz.results155 qmw.1 rfl rfl (by kernel_rfl)]
    simp -implicitDefEqProofs -dsimp +contextual (maxSteps:=9999999) (disch:=first | omega | simp only [go_sem]<;>omega | refine ib ?_;kernel_rfl) only [go_sem,seval,↓reduceIte,drp,hf,hi,hid,hc,qkv]
    rw [if_neg (by omega)]
    rfl
   ·rw [qaa Tryz.func155 rfl rfl Tryz.results155 qmw.1 rfl rfl (by kernel_rfl)]
    simp -implicitDefEqProofs -dsimp +contextual (maxSteps:=9999999) (disch:=first | omega | simp only [go_sem]<;>omega | refine ib ?_;kernel_rfl) only [go_sem,seval,↓reduceIte,drp,hf,hi,hid,hc,qkv]
    rw [if_neg (by omega)]
    rfl
 ·have hs:qaW n id x has e=n:=by unfold qaW;rw [hf,if_neg (by omega)]
  rw [hs]
  rcases hA with _ | l
  ·rw [qaa Tryz.func155 rfl rfl Tryz.results155 qmw.1 rfl rfl (by kernel_rfl)]
   simp -implicitDefEqProofs -dsimp +contextual (maxSteps:=9999999) (disch:=first | omega | simp only [go_sem]<;>omega | refine ib ?_;kernel_rfl) only [go_sem,seval,↓reduceIte,hf]
  ·rw [qaa Tryz.func155 rfl rfl Tryz.results155 qmw.1 rfl rfl (by kernel_rfl)]
   simp -implicitDefEqProofs -dsimp +contextual (maxSteps:=9999999) (disch:=first | omega | simp only [go_sem]<;>omega | refine ib ?_;kernel_rfl) only [go_sem,seval,↓reduceIte,hf]
theorem qE7 (l:List Ac) (a:Ac):l.map Ac.cs++[[.bool a.ans,.str a.to.name,.int .u64 (a.to.id:Int),.int .i64 a.to.fr,.int .i64 a.to.un,.int .i64 a.to.ix,.str a.to.tag,.int .i64 a.m.kind,.int .i64 a.m.rid,.int .i64 a.m.ver,.int .i64 a.m.err,.int .u64 (a.m.id:Int),.bool a.m.has,.bool a.m.gone,.str a.m.key,.str a.m.val,.slice 6 (a.m.ents.map En.cs),.slice 4 (a.m.items.map It.cs),.int .i64 a.why,.int .i64 a.job]]=(l++[a]).map Ac.cs:=by rw [List.map_append];rfl
theorem qxT (n:Nd) (A:AVal) (acts:List Ac) (hA:AcC A acts) (back:En) (rid:Int) (x:It) (has:Bool) (e:Int) (h:n.mid 1000000) (ha:acts.length≤1000000):fn C 165 [] [.uptr [.str n.me.name,.int .u64 (n.me.id:Int),.int .i64 n.me.fr,.int .i64 n.me.un,.int .i64 n.me.ix,.str n.me.tag,.int .i64 n.clock,.str n.psk,.int .i64 n.gateI,.str n.gateK,.bool n.ready,.slice 8 (n.pred.map Pr.cs),.slice 8 (n.list.map Pr.cs),.slice 9 (n.fingers.map Fg.cs),.usl 20 (n.sessions.map Se.cs),.usl 23 (n.pends.map Pd.cs),.slice 4 (n.items.map It.cs),.usl 29 (n.jobs.map Jb.cs),.int .i64 n.rid,.int .i64 n.jobId,.slice 1 (n.draws.map qaw),.usl 8 (n.results.map Rs.cs),A],.agg [.str back.name,.int .u64 (back.id:Int),.int .i64 back.fr,.int .i64 back.un,.int .i64 back.ix,.str back.tag],.int .i64 rid,.int .i64 0,.agg [.str x.k,.str x.v,.int .i64 x.n,.bool x.g],.bool has,.int .i64 e]=
  some (.tup [],[.uptr [.str n.me.name,.int .u64 (n.me.id:Int),.int .i64 n.me.fr,.int .i64 n.me.un,.int .i64 n.me.ix,.str n.me.tag,.int .i64 n.clock,.str n.psk,.int .i64 n.gateI,.str n.gateK,.bool n.ready,.slice 8 (n.pred.map Pr.cs),.slice 8 (n.list.map Pr.cs),.slice 9 (n.fingers.map Fg.cs),.usl 20 (n.sessions.map Se.cs),.usl 23 (n.pends.map Pd.cs),.slice 4 (n.items.map It.cs),.usl 29 (n.jobs.map Jb.cs),.int .i64 n.rid,.int .i64 n.jobId,.slice 1 (n.draws.map qaw),.usl 8 (n.results.map Rs.cs),.usl 20 ((acts++[qb5 back rid x e]).map Ac.cs)]]):=by
 have ap:=fun l:List Ac=>(qE7 l (qb5 back rid x e)).symm
 rw [List.map_append]
 rcases hA with _ | l
 ·rw [qah Tryz.func165 rfl rfl Tryz.results165 qsB.1 rfl rfl (by kernel_rfl)]
  simp -implicitDefEqProofs -dsimp +contextual (maxSteps:=9999999) (disch:=first | omega | simp only [go_sem]<;>omega | refine ib ?_;kernel_rfl) only [go_sem,seval,↓reduceIte]
  rfl
 ·rw [qah Tryz.func165 rfl rfl Tryz.results165 qsB.1 rfl rfl (by kernel_rfl)]
  simp -implicitDefEqProofs -dsimp +contextual (maxSteps:=9999999) (disch:=first | omega | simp only [go_sem]<;>omega | refine ib ?_;kernel_rfl) only [go_sem,seval,↓reduceIte]
  rfl
theorem qxU (n:Nd) (A:AVal) (acts:List Ac) (hA:AcC A acts) (back:En) (rid job:Int) (x:It) (has:Bool) (e:Int) (hj:¬job=0) (h:n.mid 1000000):fn C 165 [] [.uptr [.str n.me.name,.int .u64 (n.me.id:Int),.int .i64 n.me.fr,.int .i64 n.me.un,.int .i64 n.me.ix,.str n.me.tag,.int .i64 n.clock,.str n.psk,.int .i64 n.gateI,.str n.gateK,.bool n.ready,.slice 8 (n.pred.map Pr.cs),.slice 8 (n.list.map Pr.cs),.slice 9 (n.fingers.map Fg.cs),.usl 20 (n.sessions.map Se.cs),.usl 23 (n.pends.map Pd.cs),.slice 4 (n.items.map It.cs),.usl 29 (n.jobs.map Jb.cs),.int .i64 n.rid,.int .i64 n.jobId,.slice 1 (n.draws.map qaw),.usl 8 (n.results.map Rs.cs),A],.agg [.str back.name,.int .u64 (back.id:Int),.int .i64 back.fr,.int .i64 back.un,.int .i64 back.ix,.str back.tag],.int .i64 rid,.int .i64 job,.agg [.str x.k,.str x.v,.int .i64 x.n,.bool x.g],.bool has,.int .i64 e]=
  some (.tup [],[.uptr [.str n.me.name,.int .u64 (n.me.id:Int),.int .i64 n.me.fr,.int .i64 n.me.un,.int .i64 n.me.ix,.str n.me.tag,.int .i64 n.clock,.str n.psk,.int .i64 n.gateI,.str n.gateK,.bool n.ready,.slice 8 (n.pred.map Pr.cs),.slice 8 (n.list.map Pr.cs),.slice 9 (n.fingers.map Fg.cs),.usl 20 (n.sessions.map Se.cs),.usl 23 (n.pends.map Pd.cs),.slice 4 (n.items.map It.cs),.usl 29 ((qaW n job x has e).jobs.map Jb.cs),.int .i64 n.rid,.int .i64 n.jobId,.slice 1 (n.draws.map qaw),.usl 8 ((qaW n job x has e).results.map Rs.cs),A]]):=by
 have st:=qA1 n A acts hA job x has e h
 rcases hA with _ | l
 ·rw [qah Tryz.func165 rfl rfl Tryz.results165 qsB.1 rfl rfl (by kernel_rfl)]
  simp -implicitDefEqProofs -dsimp +contextual (maxSteps:=9999999) (disch:=first | omega | simp only [go_sem]<;>omega | refine ib ?_;kernel_rfl) only [go_sem,seval,↓reduceIte,hj,st]
 ·rw [qah Tryz.func165 rfl rfl Tryz.results165 qsB.1 rfl rfl (by kernel_rfl)]
  simp -implicitDefEqProofs -dsimp +contextual (maxSteps:=9999999) (disch:=first | omega | simp only [go_sem]<;>omega | refine ib ?_;kernel_rfl) only [go_sem,seval,↓reduceIte,hj,st]
theorem qsN (n:Nd) (A:AVal) (acts:List Ac) (hA:AcC A acts) (j:Jb) (hj:j.backJob=0) (h:n.mid 1000000) (ha:acts.length≤1000000):fn C 227 [] [.uptr [.str n.me.name,.int .u64 (n.me.id:Int),.int .i64 n.me.fr,.int .i64 n.me.un,.int .i64 n.me.ix,.str n.me.tag,.int .i64 n.clock,.str n.psk,.int .i64 n.gateI,.str n.gateK,.bool n.ready,.slice 8 (n.pred.map Pr.cs),.slice 8 (n.list.map Pr.cs),.slice 9 (n.fingers.map Fg.cs),.usl 20 (n.sessions.map Se.cs),.usl 23 (n.pends.map Pd.cs),.slice 4 (n.items.map It.cs),.usl 29 (n.jobs.map Jb.cs),.int .i64 n.rid,.int .i64 n.jobId,.slice 1 (n.draws.map qaw),.usl 8 (n.results.map Rs.cs),A],.agg [.int .i64 j.id,.int .i64 j.kind,.int .i64 j.phase,.int .i64 j.hops,.int .i64 j.tries,.int .i64 j.til,.str j.key,.str j.val,.str j.owner.name,.int .u64 (j.owner.id:Int),.int .i64 j.owner.fr,.int .i64 j.owner.un,.int .i64 j.owner.ix,.str j.owner.tag,.str j.item.k,.str j.item.v,.int .i64 j.item.n,.bool j.item.g,.int .i64 j.acks,.int .i64 j.waits,.slice 1 (j.asked.map qaG),.str j.back.name,.int .u64 (j.back.id:Int),.int .i64 j.back.fr,.int .i64 j.back.un,.int .i64 j.back.ix,.str j.back.tag,.int .i64 j.backRid,.int .i64 j.backJob]]=some (.tup [],[.uptr [.str n.me.name,.int .u64 (n.me.id:Int),.int .i64 n.me.fr,.int .i64 n.me.un,.int .i64 n.me.ix,.str n.me.tag,.int .i64 n.clock,.str n.psk,.int .i64 n.gateI,.str n.gateK,.bool n.ready,.slice 8 (n.pred.map Pr.cs),.slice 8 (n.list.map Pr.cs),.slice 9 (n.fingers.map Fg.cs),.usl 20 (n.sessions.map Se.cs),.usl 23 (n.pends.map Pd.cs),.slice 4 (n.items.map It.cs),.usl 29 (n.jobs.map Jb.cs),.int .i64 n.rid,.int .i64 n.jobId,.slice 1 (n.draws.map qaw),.usl 8 (n.results.map Rs.cs),.usl 20 ((acts++[qb5 j.back j.backRid j.item 0]).map Ac.cs)]]):=by
 have t:=qxT n A acts hA j.back j.backRid j.item (!j.item.g) 0 h ha
 rcases hA with _ | l
 ·rw [qaa Tryz.func227 rfl rfl Tryz.results227 qsD.1 rfl rfl (by kernel_rfl)]
  simp -implicitDefEqProofs -dsimp +contextual (maxSteps:=9999999) (disch:=first | omega | simp only [go_sem]<;>omega | refine ib ?_;kernel_rfl) only [go_sem,seval,↓reduceIte,hj,t]
 ·rw [qaa Tryz.func227 rfl rfl Tryz.results227 qsD.1 rfl rfl (by kernel_rfl)]
  simp -implicitDefEqProofs -dsimp +contextual (maxSteps:=9999999) (disch:=first | omega | simp only [go_sem]<;>omega | refine ib ?_;kernel_rfl) only [go_sem,seval,↓reduceIte,hj,t]
theorem qsO (n:Nd) (A:AVal) (acts:List Ac) (hA:AcC A acts) (j:Jb) (hj:¬j.backJob=0) (h:n.mid 1000000):fn C 227 [] [.uptr [.str n.me.name,.int .u64 (n.me.id:Int),.int .i64 n.me.fr,.int .i64 n.me.un,.int .i64 n.me.ix,.str n.me.tag,.int .i64 n.clock,.str n.psk,.int .i64 n.gateI,.str n.gateK,.bool n.ready,.slice 8 (n.pred.map Pr.cs),.slice 8 (n.list.map Pr.cs),.slice 9 (n.fingers.map Fg.cs),.usl 20 (n.sessions.map Se.cs),.usl 23 (n.pends.map Pd.cs),.slice 4 (n.items.map It.cs),.usl 29 (n.jobs.map Jb.cs),.int .i64 n.rid,.int .i64 n.jobId,.slice 1 (n.draws.map qaw),.usl 8 (n.results.map Rs.cs),A],.agg [.int .i64 j.id,.int .i64 j.kind,.int .i64 j.phase,.int .i64 j.hops,.int .i64 j.tries,.int .i64 j.til,.str j.key,.str j.val,.str j.owner.name,.int .u64 (j.owner.id:Int),.int .i64 j.owner.fr,.int .i64 j.owner.un,.int .i64 j.owner.ix,.str j.owner.tag,.str j.item.k,.str j.item.v,.int .i64 j.item.n,.bool j.item.g,.int .i64 j.acks,.int .i64 j.waits,.slice 1 (j.asked.map qaG),.str j.back.name,.int .u64 (j.back.id:Int),.int .i64 j.back.fr,.int .i64 j.back.un,.int .i64 j.back.ix,.str j.back.tag,.int .i64 j.backRid,.int .i64 j.backJob]]=
  some (.tup [],[.uptr [.str n.me.name,.int .u64 (n.me.id:Int),.int .i64 n.me.fr,.int .i64 n.me.un,.int .i64 n.me.ix,.str n.me.tag,.int .i64 n.clock,.str n.psk,.int .i64 n.gateI,.str n.gateK,.bool n.ready,.slice 8 (n.pred.map Pr.cs),.slice 8 (n.list.map Pr.cs),.slice 9 (n.fingers.map Fg.cs),.usl 20 (n.sessions.map Se.cs),.usl 23 (n.pends.map Pd.cs),.slice 4 (n.items.map It.cs),.usl 29 ((qaW n j.backJob j.item (!j.item.g) 0).jobs.map Jb.cs),.int .i64 n.rid,.int .i64 n.jobId,.slice 1 (n.draws.map qaw),.usl 8 ((qaW n j.backJob j.item (!j.item.g) 0).results.map Rs.cs),A]]):=by
 have t:=qxU n A acts hA j.back j.backRid j.backJob j.item (!j.item.g) 0 hj h
 rcases hA with _ | l
 ·rw [qaa Tryz.func227 rfl rfl Tryz.results227 qsD.1 rfl rfl (by kernel_rfl)]
  simp -implicitDefEqProofs -dsimp +contextual (maxSteps:=9999999) (disch:=first | omega | simp only [go_sem]<;>omega | refine ib ?_;kernel_rfl) only [go_sem,seval,↓reduceIte,t]
 ·rw [qaa Tryz.func227 rfl rfl Tryz.results227 qsD.1 rfl rfl (by kernel_rfl)]
  simp -implicitDefEqProofs -dsimp +contextual (maxSteps:=9999999) (disch:=first | omega | simp only [go_sem]<;>omega | refine ib ?_;kernel_rfl) only [go_sem,seval,↓reduceIte,t]
theorem qmA {l:List Jb} {id:Int} {i:Nat} (hi:i<l.length) (hf:qbW l id=(i:Int)) (hk:l[i].kind=4):qeo l id=(i:Int):=by
 unfold qeo;rw [hf,if_pos ⟨by omega,by rw [Int.toNat_natCast,qdu hi];exact hk⟩]
theorem qgW {l:List Jb} {id:Int} {i:Nat} (hi:i<l.length) (hf:qbW l id=(i:Int)) (hk:¬l[i].kind=4):qeo l id= -1:=by
 unfold qeo;rw [hf,if_neg (fun h=>hk (by rw [Int.toNat_natCast,qdu hi]at h;exact h.2))]
theorem qgX {l:List Jb} {id:Int} (hf:qbW l id= -1):qeo l id= -1:=by
 unfold qeo;rw [hf,if_neg (fun h=>by omega)]
theorem qxV (n:Nd) (A:AVal) (id:Int) (h:n.jobs.length≤1000000):fn C 224 [] [.iptr [.str n.me.name,.int .u64 (n.me.id:Int),.int .i64 n.me.fr,.int .i64 n.me.un,.int .i64 n.me.ix,.str n.me.tag,.int .i64 n.clock,.str n.psk,.int .i64 n.gateI,.str n.gateK,.bool n.ready,.slice 8 (n.pred.map Pr.cs),.slice 8 (n.list.map Pr.cs),.slice 9 (n.fingers.map Fg.cs),.slice 20 (n.sessions.map Se.cs),.slice 23 (n.pends.map Pd.cs),.slice 4 (n.items.map It.cs),.slice 29 (n.jobs.map Jb.cs),.int .i64 n.rid,.int .i64 n.jobId,.slice 1 (n.draws.map qaw),.slice 8 (n.results.map Rs.cs),A],.int .i64 id]=some (.int .i64 (qeo n.jobs id),[]):=by
 rcases qch n.jobs id with ⟨i,hi,hid,_,hf⟩|⟨_,hf⟩
 ·have row:=qdg n.jobs i hi
  by_cases hk:n.jobs[i].kind=4
  ·rw [qmA hi hf hk]
   rw [qaa Tryz.func224 rfl rfl Tryz.results224 qsC.1 rfl rfl (by kernel_rfl)]
   simp -implicitDefEqProofs -dsimp +contextual (maxSteps:=9999999) (disch:=first | omega | simp only [go_sem]<;>omega | refine ib ?_;kernel_rfl) only [go_sem,seval,↓reduceIte,hf,row,hk,Nat.not_lt_zero]
  ·rw [qgW hi hf hk]
   rw [qaa Tryz.func224 rfl rfl Tryz.results224 qsC.1 rfl rfl (by kernel_rfl)]
   simp -implicitDefEqProofs -dsimp +contextual (maxSteps:=9999999) (disch:=first | omega | simp only [go_sem]<;>omega | refine ib ?_;kernel_rfl) only [go_sem,seval,↓reduceIte,hf,row,hk,Nat.not_lt_zero]
 ·rw [qgX hf]
  rw [qaa Tryz.func224 rfl rfl Tryz.results224 qsC.1 rfl rfl (by kernel_rfl)]
  simp -implicitDefEqProofs -dsimp +contextual (maxSteps:=9999999) (disch:=first | omega | simp only [go_sem]<;>omega | refine ib ?_;kernel_rfl) only [go_sem,seval,↓reduceIte,hf]
theorem qdQ {n:Nd} {k:Nat} (i:Nat) (h:n.mid k):({ n with jobs:=n.jobs.eraseIdx i }:Nd).mid k:=
 ⟨h.pl,h.ll,h.fl,h.sl,h.dl,h.il,Nat.le_trans (List.length_eraseIdx_le ..) h.jl,h.wl,h.rl,h.pe,h.pi,fun j hj=>h.ja j (List.mem_of_mem_eraseIdx hj),h.ik⟩
theorem qwO (l:List Rs):(qm3 l).length≤16:=by unfold qm3;simp;omega
theorem qpK {n:Nd} {k:Nat} (id:Int) (x:It) (has:Bool) (e:Int) (h:n.mid k) (hk:16≤k):(qaW n id x has e).mid k:=by
 unfold qaW
 split
 ·exact ⟨h.pl,h.ll,h.fl,h.sl,h.dl,h.il,Nat.le_trans (List.length_eraseIdx_le ..) h.jl,h.wl,Nat.le_trans (qwO _) hk,h.pe,h.pi,fun j hj=>h.ja j (List.mem_of_mem_eraseIdx hj),h.ik⟩
 ·exact h
def qnv (o:Nat) (n:Nd) (acts:List Ac) (H:qac):Prop:=∃A a b c d:Nat,∃X,H o=⟨1,.live,23,[[.str n.me.name,.int .u64 (n.me.id:Int),.int .i64 n.me.fr,.int .i64 n.me.un,.int .i64 n.me.ix,.str n.me.tag,.int .i64 n.clock,.str n.psk,.int .i64 n.gateI,.str n.gateK,.bool n.ready,.slice 8 (n.pred.map Pr.cs),.slice 8 (n.list.map Pr.cs),.slice 9 (n.fingers.map Fg.cs),.osl (o * 1000+15) a 0 n.sessions.length,.osl (o * 1000+16) b 0 n.pends.length,.slice 4 (n.items.map It.cs),.osl (o * 1000+18) c 0 n.jobs.length,.int .i64 n.rid,.int .i64 n.jobId,.slice 1 (n.draws.map qaw),.osl (o * 1000+22) d 0 n.results.length,X]],false⟩∧
 H (o * 1000+15)=⟨a,.live,20,n.sessions.map Se.cs,false⟩∧H (o * 1000+16)=⟨b,.live,23,n.pends.map Pd.cs,false⟩∧H (o * 1000+18)=⟨c,.live,29,n.jobs.map Jb.cs,false⟩∧H (o * 1000+22)=⟨d,.live,8,n.results.map Rs.cs,false⟩∧
 ((X= .sc (.slice none 0 0)∧acts=[])∨(X= .osl (o * 1000+23) A 0 acts.length∧H (o * 1000+23)=⟨A,.live,20,acts.map Ac.cs,false⟩))
@[go_sem] theorem qNk (l:List Jb) (id:Int) (hl:l.length≤9223372036854775807):fn C 152 [] [.slice 29 (l.map Jb.cs),.int .i64 id]=some (.int .i64 (qbW l id),[]):=by
 rw [qaa Tryz.func152 rfl rfl Tryz.results152 qDy.1 rfl rfl (by kernel_rfl)]
 simp -implicitDefEqProofs -dsimp +contextual (maxSteps:=9999999) (disch:=first | omega | simp only [go_sem]<;>omega | refine ib ?_;kernel_rfl) only [go_sem,seval,↓reduceIte]
 refine qeb l.length (fun i f H=>f 0= .slice 29 (l.map Jb.cs)∧f 1= .int .i64 id∧f 5= .int .i64 (i:Nat)∧H=qac.nil∧(l.take i).any (qdW id)=false) ?_ ?_ (by exact ⟨rfl,rfl,rfl,rfl,rfl⟩)
 ·rintro i f _ hi ⟨f0,f1,f5,rfl,ha⟩ ih
  have row:=qdg l i hi
  by_cases h:l[i].id=id
  ·simp -implicitDefEqProofs -dsimp +contextual (maxSteps:=9999999) (disch:=first | omega | simp only [go_sem]<;>omega | refine ib ?_;kernel_rfl) only [go_sem,seval,↓reduceIte,f0,f1,f5,hi,row,h]
   rw [qbW,qcp hi ha (by simp [qdW,h])]
  ·simp -implicitDefEqProofs -dsimp +contextual (maxSteps:=9999999) (disch:=first | omega | simp only [go_sem]<;>omega | refine ib ?_;kernel_rfl) only [go_sem,seval,↓reduceIte,f0,f1,f5,hi,row,h]
   exact ih _ _ ⟨f0,f1,rfl,rfl,qa5 hi ha (by simp [qdW,h])⟩
 ·rintro f _ ⟨f0,f1,f5,rfl,ha⟩
  simp -implicitDefEqProofs -dsimp +contextual (maxSteps:=9999999) (disch:=first | omega | simp only [go_sem]<;>omega | refine ib ?_;kernel_rfl) only [go_sem,seval,↓reduceIte,f0,f1,f5]
  rw [qbW,qbP (qby ha)]
theorem qpL {α:Type} (l:List α) (at_ i:Nat) (hi:i<l.length):(l.take (i+1)).eraseIdx at_=if i=at_ then (l.take i).eraseIdx at_ else (l.take i).eraseIdx at_++[l[i]]:=by
 have hlen:(l.take i).length=i:=by simp;omega
 rw [List.take_succ_eq_append_getElem hi]
 by_cases h:i=at_
 ·subst h
  rw [if_pos rfl,List.eraseIdx_append_of_length_le (by omega),hlen,Nat.sub_self]
  simp [List.eraseIdx_of_length_le (Nat.le_of_eq hlen)]
 ·rw [if_neg h]
  rcases Nat.lt_or_ge at_ i with h2 | h2
  ·rw [List.eraseIdx_append_of_lt_length (by omega)]
  ·rw [List.eraseIdx_append_of_length_le (by omega),hlen,List.eraseIdx_of_length_le (l:=l.take i) (by omega),List.eraseIdx_of_length_le (by simp;omega)]
@[go_sem] theorem Jb.app_cs (l:List Jb) (j:Jb):l.map Jb.cs++[[.int .i64 j.id,.int .i64 j.kind,.int .i64 j.phase,.int .i64 j.hops,.int .i64 j.tries,.int .i64 j.til,.str j.key,.str j.val,.str j.owner.name,.int .u64 (j.owner.id:Int),.int .i64 j.owner.fr,.int .i64 j.owner.un,.int .i64 j.owner.ix,.str j.owner.tag,.str j.item.k,.str j.item.v,.int .i64 j.item.n,.bool j.item.g,.int .i64 j.acks,.int .i64 j.waits,.slice 1 (j.asked.map qaG),.str j.back.name,.int .u64 (j.back.id:Int),.int .i64 j.back.fr,.int .i64 j.back.un,.int .i64 j.back.ix,.str j.back.tag,.int .i64 j.backRid,.int .i64 j.backJob]]=(l++[j]).map Jb.cs:=by rw [List.map_append];rfl
@[go_sem] theorem qJH (l:List Jb) (at_:Nat) (hl:l.length≤1000000):fn C 156 [] [.slice 29 (l.map Jb.cs),.int .i64 (at_:Nat)]=some (.slice 29 ((l.eraseIdx at_).map Jb.cs),[]):=by
 rw [qah Tryz.func156 rfl rfl Tryz.results156 qDA.1 rfl rfl (by kernel_rfl)]
 simp -implicitDefEqProofs -dsimp +contextual (maxSteps:=9999999) (disch:=first | omega | simp only [go_sem]<;>omega | refine ib ?_;kernel_rfl) only [go_sem,seval,↓reduceIte]
 refine qeb l.length (fun i f H=>f 0= .slice 29 (l.map Jb.cs)∧f 1= .int .i64 (at_:Nat)∧f 6= .int .i64 (i:Nat)∧∃g,f 5= .osl 105 g 0 ((l.take i).eraseIdx at_).length∧H 105=⟨g,.live,29,((l.take i).eraseIdx at_).map Jb.cs,false⟩) ?_ ?_ (by exact ⟨rfl,rfl,rfl,1,rfl,rfl⟩)
 ·rintro i f H hi ⟨f0,f1,f6,g,f5,H1⟩ ih
  have row:=qdg l i hi
  have st:=qpL l at_ i hi
  have le:((l.take i).eraseIdx at_).length≤l.length:=Nat.le_trans (List.length_eraseIdx_le ..) (by simp;omega)
  by_cases h:i=at_
  ·rw [if_pos h]at st
   subst h
   simp -implicitDefEqProofs -dsimp +contextual (maxSteps:=9999999) (disch:=first | omega | simp only [go_sem]<;>omega | refine ib ?_;kernel_rfl) only [go_sem,seval,↓reduceIte,f0,f1,f5,f6,H1,hi,row]
   exact ih _ _ (by exact ⟨f0,f1,rfl,g,by rw [st];exact f5,by rw [st];exact H1⟩)
  ·rw [if_neg h]at st
   simp -implicitDefEqProofs -dsimp +contextual (maxSteps:=9999999) (disch:=first | omega | simp only [go_sem]<;>omega | refine ib ?_;kernel_rfl) only [go_sem,seval,↓reduceIte,f0,f1,f5,f6,H1,hi,row,h]
   exact ih _ _ (by exact ⟨f0,f1,rfl,g+1,by rw [st];simp [upd],by rw [st];simp [qac.set]⟩)
 ·rintro f H ⟨f0,f1,f6,g,f5,H1⟩
  rw [List.take_length]at f5 H1
  simp -implicitDefEqProofs -dsimp +contextual (maxSteps:=9999999) (disch:=first | omega | simp only [go_sem]<;>omega | refine ib ?_;kernel_rfl) only [go_sem,seval,↓reduceIte,f0,f1,f5,f6,H1]
@[go_sem] theorem Nd.cs_eq (n:Nd):n.cs=[.str n.me.name,.int .u64 (n.me.id:Int),.int .i64 n.me.fr,.int .i64 n.me.un,.int .i64 n.me.ix,.str n.me.tag,.int .i64 n.clock,.str n.psk,.int .i64 n.gateI,.str n.gateK,.bool n.ready,.slice 8 (n.pred.map Pr.cs),.slice 8 (n.list.map Pr.cs),.slice 9 (n.fingers.map Fg.cs),.slice 20 (n.sessions.map Se.cs),.slice 23 (n.pends.map Pd.cs),.slice 4 (n.items.map It.cs),.slice 29 (n.jobs.map Jb.cs),.int .i64 n.rid,.int .i64 n.jobId,.slice 1 (n.draws.map qaw),.slice 8 (n.results.map Rs.cs)]:=rfl
@[go_sem] theorem e87 (n:Nd) (id:Int) (x:It) (has:Bool) (e:Int) (h:n.mid 1000000):fn C 87 [] [(aNd n),.int .i64 id,.agg [.str x.k,.str x.v,.int .i64 x.n,.bool x.g],.bool has,.int .i64 e]=some (.agg (qaW n id x has e).cs,[]):=by
 have jl:=h.jl;have rl:=h.rl
 rcases qch n.jobs id with ⟨i,hi,hid,_,hf⟩|⟨_,hf⟩
 ·have hs:qaW n id x has e={ n with jobs:=n.jobs.eraseIdx i,results:=qm3 (n.results++[qFX id n.jobs[i] x has e]) }:=by
   unfold qaW;rw [hf,if_pos (by omega),Int.toNat_natCast,qdu hi]
  rw [hs]
  have row:=qdg n.jobs i hi
  have wo:=qJH n.jobs i jl
  rw [qaa Tryz.func87 rfl rfl Tryz.results87 qHx.1 rfl rfl (by kernel_rfl)]
  simp -implicitDefEqProofs -dsimp +contextual (maxSteps:=9999999) (disch:=first | omega | simp only [go_sem]<;>omega | refine ib ?_;kernel_rfl) only [go_sem,seval,↓reduceIte,hf,row,wo,qkv,Nat.not_lt_zero]
  rw [show qFX id n.jobs[i] x has e=⟨id,n.jobs[i].kind,x.n,n.jobs[i].key,x.v,has,x.g,e⟩from rfl]
  obtain ⟨L,hL⟩:∃L,L=n.results++[(⟨id,n.jobs[i].kind,x.n,n.jobs[i].key,x.v,has,x.g,e⟩:Rs)]:=⟨_,rfl⟩
  have hLl:L.length=n.results.length+1:=by rw [hL];simp
  rw [←hL,←hLl]
  clear hL
  refine qaj (fun (k:Nat) f H=>k≤L.length∧(k=0∨k+16≤L.length)∧f 5= .ptr 105 1 0 0∧f 10= .ptr 110 1 0 0∧(H 110).gen=1∧(H 110).mode= .live∧(∃r:List AVal,r.length=22∧(H 110).rows=[r])∧
   H 105=⟨1,.live,22,[[.str n.me.name,.int .u64 (n.me.id:Int),.int .i64 n.me.fr,.int .i64 n.me.un,.int .i64 n.me.ix,.str n.me.tag,.int .i64 n.clock,.str n.psk,.int .i64 n.gateI,.str n.gateK,.bool n.ready,.slice 8 (n.pred.map Pr.cs),.slice 8 (n.list.map Pr.cs),.slice 9 (n.fingers.map Fg.cs),.slice 20 (n.sessions.map Se.cs),.slice 23 (n.pends.map Pd.cs),.slice 4 (n.items.map It.cs),.slice 29 ((n.jobs.eraseIdx i).map Jb.cs),.int .i64 n.rid,.int .i64 n.jobId,.slice 1 (n.draws.map qaw),.osl 145 3 k (L.length - k)]],false⟩∧H 145=⟨3,.live,8,L.map Rs.cs,false⟩) (fun k=>L.length - k) (fun _=>_) ?_ 0 _ _ (by exact ⟨Nat.zero_le _,.inl rfl,rfl,rfl,rfl,rfl,⟨_,rfl,rfl⟩,rfl,rfl⟩)
  rintro k f H ⟨k1,k2,f5,f10,H2,H2m,⟨r,hr,H2r⟩,H1,H3⟩ ih
  by_cases hlt:16<L.length - k
  ·simp -implicitDefEqProofs -dsimp +contextual (maxSteps:=9999999) (disch:=first | omega | simp only [go_sem]<;>omega | refine ib ?_;kernel_rfl) only [go_sem,seval,↓reduceIte,f5,f10,H1,H2,H2m,H2r,hr,H3,hlt]
   exact ih (k+1) _ _ (by exact ⟨by omega,.inr (by omega),f5,f10,H2,H2m,⟨r,hr,H2r⟩,by simp [qac.set,Nat.sub_sub],H3⟩) (by omega)
  ·simp -implicitDefEqProofs -dsimp +contextual (maxSteps:=9999999) (disch:=first | omega | simp only [go_sem]<;>omega | refine ib ?_;kernel_rfl) only [go_sem,seval,↓reduceIte,f5,f10,H1,H2,H2m,H2r,hr,H3,hlt]
   rw [qm3,show k=L.length - 16 by omega]
 ·have hs:qaW n id x has e=n:=by unfold qaW;rw [hf,if_neg (by omega)]
  rw [hs]
  rw [qaa Tryz.func87 rfl rfl Tryz.results87 qHx.1 rfl rfl (by kernel_rfl)]
  simp -implicitDefEqProofs -dsimp +contextual (maxSteps:=9999999) (disch:=first | omega | simp only [go_sem]<;>omega | refine ib ?_;kernel_rfl) only [go_sem,seval,↓reduceIte,hf]
theorem qE8 (n:Nd) (back:En) (rid:Int) (x:It) (has:Bool) (e:Int):fn C 178 [] [(aNd n),.agg [.str back.name,.int .u64 (back.id:Int),.int .i64 back.fr,.int .i64 back.un,.int .i64 back.ix,.str back.tag],.int .i64 rid,.int .i64 0,.agg [.str x.k,.str x.v,.int .i64 x.n,.bool x.g],.bool has,.int .i64 e]=some (.tup [(aNd n),.slice 20 [[.bool (qb5 back rid x e).ans,.str (qb5 back rid x e).to.name,.int .u64 ((qb5 back rid x e).to.id:Int),.int .i64 (qb5 back rid x e).to.fr,.int .i64 (qb5 back rid x e).to.un,.int .i64 (qb5 back rid x e).to.ix,.str (qb5 back rid x e).to.tag,.int .i64 (qb5 back rid x e).m.kind,.int .i64 (qb5 back rid x e).m.rid,.int .i64 (qb5 back rid x e).m.ver,.int .i64 (qb5 back rid x e).m.err,.int .u64 ((qb5 back rid x e).m.id:Int),.bool (qb5 back rid x e).m.has,.bool (qb5 back rid x e).m.gone,.str (qb5 back rid x e).m.key,.str (qb5 back rid x e).m.val,.slice 6 ((qb5 back rid x e).m.ents.map En.cs),.slice 4 ((qb5 back rid x e).m.items.map It.cs),.int .i64 (qb5 back rid x e).why,.int .i64 (qb5 back rid x e).job]]],[]):=by
 rw [qah Tryz.func178 rfl rfl Tryz.results178 qAM.1 rfl rfl (by kernel_rfl)]
 simp -implicitDefEqProofs -dsimp +contextual (maxSteps:=9999999) (disch:=first | omega | simp only [go_sem]<;>omega | refine ib ?_;kernel_rfl) only [go_sem,seval,↓reduceIte]
 rfl
theorem qE9 (n:Nd) (back:En) (rid job:Int) (x:It) (has:Bool) (e:Int) (hj:¬job=0) (h:n.mid 1000000):fn C 178 [] [(aNd n),.agg [.str back.name,.int .u64 (back.id:Int),.int .i64 back.fr,.int .i64 back.un,.int .i64 back.ix,.str back.tag],.int .i64 rid,.int .i64 job,.agg [.str x.k,.str x.v,.int .i64 x.n,.bool x.g],.bool has,.int .i64 e]=some (.tup [.agg (qaW n job x has e).cs,.slice 20 []],[]):=by
 have st:=e87 n job x has e h
 rw [qah Tryz.func178 rfl rfl Tryz.results178 qAM.1 rfl rfl (by kernel_rfl)]
 simp -implicitDefEqProofs -dsimp +contextual (maxSteps:=9999999) (disch:=first | omega | simp only [go_sem]<;>omega | refine ib ?_;kernel_rfl) only [go_sem,seval,↓reduceIte,hj,st]
theorem qFa (n:Nd) (back:En) (rid job:Int) (x:It) (has:Bool) (e:Int) (h:n.mid 1000000):fn C 178 [] [(aNd n),.agg [.str back.name,.int .u64 (back.id:Int),.int .i64 back.fr,.int .i64 back.un,.int .i64 back.ix,.str back.tag],.int .i64 rid,.int .i64 job,.agg [.str x.k,.str x.v,.int .i64 x.n,.bool x.g],.bool has,.int .i64 e]=some (.tup [.agg (qb6 n back rid job x has e).1.cs,.slice 20 ((qb6 n back rid job x has e).2.map Ac.cs)],[]):=by
 unfold qb6
 by_cases hj:job=0
 ·subst hj;rw [if_pos rfl,qE8];rfl
 ·rw [if_neg hj,qE9 _ _ _ _ _ _ _ hj h];rfl
@[go_sem] theorem qNl (n:Int):fn C 231 [] [.int .i64 n]=some (.int .i64 (qcM n),[]):=by
 rw [qaa Tryz.func231 rfl rfl Tryz.results231 qEh.1 rfl rfl (by kernel_rfl)]
 simp -implicitDefEqProofs -dsimp +contextual (maxSteps:=9999999) (disch:=first | omega | simp only [go_sem]<;>omega | refine ib ?_;kernel_rfl) only [go_sem,seval,↓reduceIte]
 (repeat' (refine qae (fun _=>?_) (fun _=>?_)))
 all_goals (refine congrArg (fun z=>some (AVal.int .i64 z,[])) ?_;unfold qcM;repeat' split)
 all_goals omega
@[go_sem] theorem qJI (l:List (List UInt8)) (name:List UInt8) (hl:l.length≤9223372036854775807):fn C 232 [] [.slice 1 (l.map qaG),.str name]=some (.bool (decide (name∈l)),[]):=by
 rw [qaa Tryz.func232 rfl rfl Tryz.results232 qEi.1 rfl rfl (by kernel_rfl)]
 simp -implicitDefEqProofs -dsimp +contextual (maxSteps:=9999999) (disch:=first | omega | simp only [go_sem]<;>omega | refine ib ?_;kernel_rfl) only [go_sem,seval,↓reduceIte]
 refine qeb l.length (fun i f H=>f 0= .slice 1 (l.map qaG)∧f 1= .str name∧f 5= .int .i64 (i:Nat)∧H=qac.nil∧¬name∈l.take i) ?_ ?_ (by exact ⟨rfl,rfl,rfl,rfl,by simp⟩)
 ·rintro i f _ hi ⟨f0,f1,f5,rfl,ha⟩ ih
  have row:(l.map qaG)[i]?=some [.str l[i]]:=by rw [List.getElem?_map,List.getElem?_eq_getElem hi];rfl
  by_cases h:l[i]=name
  ·simp -implicitDefEqProofs -dsimp +contextual (maxSteps:=9999999) (disch:=first | omega | simp only [go_sem]<;>omega | refine ib ?_;kernel_rfl) only [go_sem,seval,↓reduceIte,f0,f1,f5,hi,row,h]
   rw [decide_eq_true (by rw [←h];exact List.getElem_mem hi)]
  ·simp -implicitDefEqProofs -dsimp +contextual (maxSteps:=9999999) (disch:=first | omega | simp only [go_sem]<;>omega | refine ib ?_;kernel_rfl) only [go_sem,seval,↓reduceIte,f0,f1,f5,hi,row,h]
   exact ih _ _ ⟨f0,f1,rfl,rfl,by
    rw [List.take_succ_eq_append_getElem hi,List.mem_append,List.mem_singleton]
    rintro (h2 | h2)
    ·exact ha h2
    ·exact h h2.symm⟩
 ·rintro f _ ⟨f0,f1,f5,rfl,ha⟩
  rw [List.take_length]at ha
  simp -implicitDefEqProofs -dsimp +contextual (maxSteps:=9999999) (disch:=first | omega | simp only [go_sem]<;>omega | refine ib ?_;kernel_rfl) only [go_sem,seval,↓reduceIte,f0,f1,f5]
  rw [decide_eq_false ha]
@[go_sem] theorem qNm (l:List (List UInt8)) (name:List UInt8) (hl:l.length≤9223372036854775807):fn C 258 [] [.slice 1 (l.map qaG),.str name]=some (.int .i64 (qde (fun s=>decide (s=name)) l),[]):=by
 rw [qaa Tryz.func258 rfl rfl Tryz.results258 qEA.1 rfl rfl (by kernel_rfl)]
 simp -implicitDefEqProofs -dsimp +contextual (maxSteps:=9999999) (disch:=first | omega | simp only [go_sem]<;>omega | refine ib ?_;kernel_rfl) only [go_sem,seval,↓reduceIte]
 refine qeb l.length (fun i f H=>f 0= .slice 1 (l.map qaG)∧f 1= .str name∧f 7= .int .i64 (l.length:Nat)∧f 8= .int .i64 (i:Nat)∧H=qac.nil∧(l.take i).any (fun s=>decide (s=name))=false) ?_ ?_ (by exact ⟨rfl,rfl,rfl,rfl,rfl,rfl⟩)
 ·rintro i f _ hi ⟨f0,f1,f7,f8,rfl,ha⟩ ih
  have row:(l.map qaG)[i]?=some [.str l[i]]:=by rw [List.getElem?_map,List.getElem?_eq_getElem hi];rfl
  by_cases h:l[i]=name
  ·simp -implicitDefEqProofs -dsimp +contextual (maxSteps:=9999999) (disch:=first | omega | simp only [go_sem]<;>omega | refine ib ?_;kernel_rfl) only [go_sem,seval,↓reduceIte,f0,f1,f7,f8,hi,row,h]
   rw [qcp hi ha (by simp [h])]
  ·have h':¬name=l[i]:=fun e=>h e.symm
   simp -implicitDefEqProofs -dsimp +contextual (maxSteps:=9999999) (disch:=first | omega | simp only [go_sem]<;>omega | refine ib ?_;kernel_rfl) only [go_sem,seval,↓reduceIte,f0,f1,f7,f8,hi,row,h,h']
   exact ih _ _ ⟨f0,f1,f7,rfl,rfl,qa5 hi ha (by simp [h])⟩
 ·rintro f _ ⟨f0,f1,f7,f8,rfl,ha⟩
  simp -implicitDefEqProofs -dsimp +contextual (maxSteps:=9999999) (disch:=first | omega | simp only [go_sem]<;>omega | refine ib ?_;kernel_rfl) only [go_sem,seval,↓reduceIte,f0,f1,f7,f8]
  rw [qbP (qby ha)]
@[go_sem] theorem qFb (l:List (List UInt8)) (name:List UInt8) (hl:l.length≤9223372036854775807):fn C 226 [] [.slice 1 (l.map qaG),.str name]=some (.bool (decide (name∈l)),[]):=by
 rw [qaa Tryz.func226 rfl rfl Tryz.results226 qEd.1 rfl rfl (by kernel_rfl)]
 rcases qcU (fun s=>decide (s=name)) l with ⟨i,hi,h1,_,h3⟩|⟨h1,h3⟩
 ·simp -implicitDefEqProofs -dsimp +contextual (maxSteps:=9999999) (disch:=first | omega | simp only [go_sem]<;>omega | refine ib ?_;kernel_rfl) only [go_sem,seval,↓reduceIte,h3,Nat.not_lt_zero,Nat.zero_le]
  rw [decide_eq_true (by have:=of_decide_eq_true h1;rw [←this];exact List.getElem_mem hi)]
 ·simp -implicitDefEqProofs -dsimp +contextual (maxSteps:=9999999) (disch:=first | omega | simp only [go_sem]<;>omega | refine ib ?_;kernel_rfl) only [go_sem,seval,↓reduceIte,h3]
  rw [decide_eq_false (fun hm=>by have:=qb1 h1 name hm;simp at this)]
theorem qLU (n:Nd) (i:Nat) (j:Jb) (hi:i<n.jobs.length) (h:n.mid 1000000):fn C 233 [] [(aNd n),.int .i64 (i:Nat),.agg [.int .i64 j.id,.int .i64 j.kind,.int .i64 j.phase,.int .i64 j.hops,.int .i64 j.tries,.int .i64 j.til,.str j.key,.str j.val,.str j.owner.name,.int .u64 (j.owner.id:Int),.int .i64 j.owner.fr,.int .i64 j.owner.un,.int .i64 j.owner.ix,.str j.owner.tag,.str j.item.k,.str j.item.v,.int .i64 j.item.n,.bool j.item.g,.int .i64 j.acks,.int .i64 j.waits,.slice 1 (j.asked.map qaG),.str j.back.name,.int .u64 (j.back.id:Int),.int .i64 j.back.fr,.int .i64 j.back.un,.int .i64 j.back.ix,.str j.back.tag,.int .i64 j.backRid,.int .i64 j.backJob]]=some (.agg ({ n with jobs:=n.jobs.set i j }:Nd).cs,[]):=by
 have jl:=h.jl
 have st:(n.jobs.map Jb.cs).set i [.int .i64 j.id,.int .i64 j.kind,.int .i64 j.phase,.int .i64 j.hops,.int .i64 j.tries,.int .i64 j.til,.str j.key,.str j.val,.str j.owner.name,.int .u64 (j.owner.id:Int),.int .i64 j.owner.fr,.int .i64 j.owner.un,.int .i64 j.owner.ix,.str j.owner.tag,.str j.item.k,.str j.item.v,.int .i64 j.item.n,.bool j.item.g,.int .i64 j.acks,.int .i64 j.waits,.slice 1 (j.asked.map qaG),.str j.back.name,.int .u64 (j.back.id:Int),.int .i64 j.back.fr,.int .i64 j.back.un,.int .i64 j.back.ix,.str j.back.tag,.int .i64 j.backRid,.int .i64 j.backJob]=(n.jobs.set i j).map Jb.cs:=by rw [List.map_set];rfl
 rw [qaa Tryz.func233 rfl rfl Tryz.results233 qEj.1 rfl rfl (by kernel_rfl)]
 simp -implicitDefEqProofs -dsimp +contextual (maxSteps:=9999999) (disch:=first | omega | simp only [go_sem]<;>omega | refine ib ?_;kernel_rfl) only [go_sem,seval,↓reduceIte,hi,st]
theorem qgY (id:Int) {j:Jb} (h:2≤qcM j.acks+qcM j.waits):∀l,qdv id l j=(j,[])
 | []=>rfl
 | p::l=>by rw [qdv,if_pos h]
theorem qfN (n:Int):0≤qcM n∧qcM n≤2:=by unfold qcM;split<;>(try split)<;>omega
theorem qsP (id:Int) (p:Pr) (l:List Pr) {j:Jb} (h:¬2≤qcM j.acks+qcM j.waits) (hn:¬p.e.name∈j.asked) :
  qdv id (p::l) j=((qdv id l { j with waits:=qcM j.waits+1,asked:=j.asked++[p.e.name] }).1,qhc p.e j.item id::(qdv id l { j with waits:=qcM j.waits+1,asked:=j.asked++[p.e.name] }).2):=by
 rw [qdv,if_neg h,if_neg hn]
theorem qkw (id:Int) (p:Pr) (l:List Pr) {j:Jb} (h:¬2≤qcM j.acks+qcM j.waits) (hn:p.e.name∈j.asked):qdv id (p::l) j=qdv id l j:=by
 rw [qdv,if_neg h,if_pos hn]
def qxW (n:Nd) (i:Nat) (q:Jb×List Ac):Option Res:=some (.tup [.agg (qaN n i q).1.cs,.slice 20 ((qaN n i q).2.map Ac.cs)],[])
def qcJ (n:Nd) (id:Int) (i:Nat) (l:List Pr) (j:Jb) (acts:List Ac):Option Res:=qxW n i ((qdv id l j).1,acts++(qdv id l j).2)
theorem qmB {n:Nd} {id:Int} {i:Nat} {l l':List Pr} {j:Jb} {acts:List Ac} (h:2≤qcM j.acks+qcM j.waits):qcJ n id i l j acts=qcJ n id i l' j acts:=by
 unfold qcJ;rw [qgY id h,qgY id h]
theorem qmC {n:Nd} {id:Int} {i:Nat} {p:Pr} {l:List Pr} {j:Jb} {acts:List Ac} (h:¬2≤qcM j.acks+qcM j.waits) (hn:p.e.name∈j.asked):qcJ n id i (p::l) j acts=qcJ n id i l j acts:=by
 unfold qcJ;rw [qkw id p l h hn]
theorem qsQ {n:Nd} {id:Int} {i:Nat} {p:Pr} {l:List Pr} {j:Jb} {acts:List Ac} (h:¬2≤qcM j.acks+qcM j.waits) (hn:¬p.e.name∈j.asked) :
  qcJ n id i (p::l) j acts=qcJ n id i l { j with waits:=qcM j.waits+1,asked:=j.asked++[p.e.name] } (acts++[qhc p.e j.item id]):=by
 unfold qcJ;rw [qsP id p l h hn];simp only;rw [←List.append_cons]
theorem qda (l:List Pr) (i:Nat) (h:i<l.length):(l.map Pr.cs)[i]?=some [.str l[i].e.name,.int .u64 (l[i].e.id:Int),.int .i64 l[i].e.fr,.int .i64 l[i].e.un,.int .i64 l[i].e.ix,.str l[i].e.tag,.int .i64 l[i].since,.int .i64 l[i].under]:=by
 rw [List.getElem?_map,List.getElem?_eq_getElem h];rfl
theorem qA2 (n:Nd) (id:Int) (i:Nat) (hi:i<n.jobs.length) (hid:qbW n.jobs id=(i:Int)) (hk:n.jobs[i].kind=4) (h:n.mid 100000):fn C 180 [] [(aNd n),.int .i64 id]=qcJ n id i n.list n.jobs[i] []:=by
 have jl:=h.jl;have ll:=h.ll
 have row:=qdg n.jobs i hi
 have al:=h.ja _ (List.getElem_mem hi)
 rw [qah Tryz.func180 rfl rfl Tryz.results180 qwD.1 rfl rfl (by kernel_rfl)]
 simp -implicitDefEqProofs -dsimp +contextual (maxSteps:=9999999) (disch:=first | omega | simp only [go_sem]<;>omega | refine ib ?_;kernel_rfl) only [go_sem,seval,↓reduceIte,hid,row,hk,Nat.not_lt_zero]
 refine (qaj (fun (a:Nat×Jb×List Ac) f H=>a.1≤n.list.length∧a.2.1.kind=4∧a.2.1.asked.length≤100000+a.1∧a.2.2.length≤a.1∧f 1= .int .i64 id∧f 2= .ptr 102 1 0 0∧f 4= .ptr 104 1 0 0∧f 6= .int .i64 (i:Nat)∧f 7= .ptr 107 1 0 0∧f 9= .int .i64 (a.1:Nat)∧
  H 102=⟨1,.live,22,[[.str n.me.name,.int .u64 (n.me.id:Int),.int .i64 n.me.fr,.int .i64 n.me.un,.int .i64 n.me.ix,.str n.me.tag,.int .i64 n.clock,.str n.psk,.int .i64 n.gateI,.str n.gateK,.bool n.ready,.slice 8 (n.pred.map Pr.cs),.slice 8 (n.list.map Pr.cs),.slice 9 (n.fingers.map Fg.cs),.slice 20 (n.sessions.map Se.cs),.slice 23 (n.pends.map Pd.cs),.slice 4 (n.items.map It.cs),.slice 29 (n.jobs.map Jb.cs),.int .i64 n.rid,.int .i64 n.jobId,.slice 1 (n.draws.map qaw),.slice 8 (n.results.map Rs.cs)]],false⟩∧(H 104).gen=1∧(H 104).mode= .live∧(∃r:List AVal,r.length=22∧(H 104).rows=[r])∧
  (∃g,f 8= .osl 108 g 0 a.2.2.length∧H 108=⟨g,.live,20,a.2.2.map Ac.cs,false⟩)∧(∃g,H 107=⟨1,.live,29,[[.int .i64 a.2.1.id,.int .i64 4,.int .i64 a.2.1.phase,.int .i64 a.2.1.hops,.int .i64 a.2.1.tries,.int .i64 a.2.1.til,.str a.2.1.key,.str a.2.1.val,.str a.2.1.owner.name,.int .u64 (a.2.1.owner.id:Int),.int .i64 a.2.1.owner.fr,.int .i64 a.2.1.owner.un,.int .i64 a.2.1.owner.ix,.str a.2.1.owner.tag,.str a.2.1.item.k,.str a.2.1.item.v,.int .i64 a.2.1.item.n,.bool a.2.1.item.g,.int .i64 a.2.1.acks,.int .i64 a.2.1.waits,.osl 133 g 0 a.2.1.asked.length,.str a.2.1.back.name,.int .u64 (a.2.1.back.id:Int),.int .i64 a.2.1.back.fr,.int .i64 a.2.1.back.un,.int .i64 a.2.1.back.ix,.str a.2.1.back.tag,.int .i64 a.2.1.backRid,.int .i64 a.2.1.backJob]],false⟩∧H 133=⟨g,.live,1,a.2.1.asked.map qaG,false⟩))
  (fun a=>n.list.length - a.1) (fun a=>qcJ n id i (n.list.drop a.1) a.2.1 a.2.2) ?_ (0,n.jobs[i],[]) _ _ (by exact ⟨Nat.zero_le _,hk,by omega,Nat.le_refl _,rfl,rfl,rfl,rfl,rfl,rfl,rfl,rfl,rfl,⟨_,rfl,rfl⟩,⟨1,rfl,rfl⟩,⟨2,rfl,rfl⟩⟩)).trans (by rw [List.drop_zero])
 rintro ⟨k,j,acts⟩ f H ⟨hk2,kd,hal,hac,f1,f2,f4,f6,f7,f9,H1,H2,H2m,⟨r,hr,H2r⟩,⟨g,f8,H3⟩,⟨g2,H4,H5⟩⟩ ih
 try simp only at hk2 kd hal hac f8 f9 H3 H4 H5 ih ⊢
 by_cases hl:k<n.list.length
 ·have prow:=qda n.list k hl
  rw [List.drop_eq_getElem_cons hl]
  have b1:=qfN j.acks
  have b2:=qfN j.waits
  by_cases hfu:2≤qcM j.acks+qcM j.waits
  ·rw [qmB (l':=n.list.drop (k+1)) hfu]
   have ih':=ih (k+1,j,acts)
   try simp only at ih'
   clear ih
   generalize qcJ n id i _ j acts=R at ih' ⊢
   simp -implicitDefEqProofs -dsimp +contextual (maxSteps:=9999999) (disch:=first | omega | simp only [go_sem]<;>omega | refine ib ?_;kernel_rfl) only [go_sem,seval,↓reduceIte,f1,f2,f4,f6,f7,f8,f9,H1,H3,H4,H5,hl,prow,hfu]
   exact ih' _ _ (by exact ⟨hl,kd,by omega,by omega,f1,f2,f4,f6,f7,rfl,H1,H2,H2m,⟨r,hr,H2r⟩,⟨g,f8,H3⟩,⟨g2,H4,H5⟩⟩) (by omega)
  ·by_cases hm:n.list[k].e.name∈j.asked
   ·rw [qmC hfu hm]
    have nm:=qJI j.asked n.list[k].e.name (by omega)
    rw [decide_eq_true hm]at nm
    have ih':=ih (k+1,j,acts)
    try simp only at ih'
    clear ih
    generalize qcJ n id i _ j acts=R at ih' ⊢
    simp -implicitDefEqProofs -dsimp +contextual (maxSteps:=9999999) (disch:=first | omega | simp only [go_sem]<;>omega | refine ib ?_;kernel_rfl) only [go_sem,seval,↓reduceIte,f1,f2,f4,f6,f7,f8,f9,H1,H3,H4,H5,hl,prow,hfu,nm,hal]
    exact ih' _ _ (by exact ⟨hl,kd,by omega,by omega,f1,f2,f4,f6,f7,rfl,H1,H2,H2m,⟨r,hr,H2r⟩,⟨g,f8,H3⟩,⟨g2,H4,H5⟩⟩) (by omega)
   ·rw [qsQ hfu hm]
    have nm:=qJI j.asked n.list[k].e.name (by omega)
    rw [decide_eq_false hm]at nm
    have ih':=ih (k+1,{ j with waits:=qcM j.waits+1,asked:=j.asked++[n.list[k].e.name] },acts++[qhc n.list[k].e j.item id])
    try simp only at ih'
    clear ih
    generalize qcJ n id i _ _ _=R at ih' ⊢
    simp -implicitDefEqProofs -dsimp +contextual (maxSteps:=9999999) (disch:=first | omega | simp only [go_sem]<;>omega | refine ib ?_;kernel_rfl) only [go_sem,seval,↓reduceIte,f1,f2,f4,f6,f7,f8,f9,H1,H3,H4,H5,hl,prow,hfu,nm,hal]
    refine ih' _ _ ?_ (by omega)
    refine ⟨hl,kd,by simp;omega,by simp;omega,f1,f2,f4,f6,f7,rfl,H1,H2,H2m,⟨r,hr,H2r⟩,⟨g+1,by rw [List.length_append,List.length_singleton];rfl,by rw [List.map_append];rfl⟩,⟨g2+1,?_,by rw [List.map_append];rfl⟩⟩
    simp only [List.length_append,List.length_singleton]
    rfl
 ·obtain rfl:k=n.list.length:=by omega
  clear ih
  rw [List.drop_length,qcJ,qdv,List.append_nil,qxW]
  by_cases hw:0<j.waits
  ·have rs:=qLU n i j hi (h.le (by omega))
   rw [kd]at rs
   rw [qaN,if_pos hw]
   simp -implicitDefEqProofs -dsimp +contextual (maxSteps:=9999999) (disch:=first | omega | simp only [go_sem]<;>omega | refine ib ?_;kernel_rfl) only [go_sem,seval,↓reduceIte,f1,f2,f4,f6,f7,f8,f9,H1,H2,H2m,hr,H2r,H3,H4,H5,hw,rs]
  ·have wo:=qJH n.jobs i (by omega)
   have te:=qFa { n with jobs:=n.jobs.eraseIdx i } j.back j.backRid j.backJob j.item (!j.item.g) 0 (qdQ i (h.le (by omega)))
   try simp only at te
   rw [qaN,if_neg hw]
   have tl:(qb6 { n with jobs:=n.jobs.eraseIdx i } j.back j.backRid j.backJob j.item (!j.item.g) 0).2.length≤1:=by unfold qb6;split<;>simp
   generalize qb6 { n with jobs:=n.jobs.eraseIdx i } j.back j.backRid j.backJob j.item (!j.item.g) 0=t at *
   simp -implicitDefEqProofs -dsimp +contextual (maxSteps:=9999999) (disch:=first | omega | simp only [go_sem]<;>omega | refine ib ?_;kernel_rfl) only [go_sem,seval,↓reduceIte,f1,f2,f4,f6,f7,f8,f9,H1,H2,H2m,hr,H2r,H3,H4,H5,hw,wo,te]
def qb4 (q:Nd×List Ac):AVal:= .tup [.agg q.1.cs,.slice 20 (q.2.map Ac.cs)]
@[go_sem] theorem qGh (q:Nd×List Ac):qb4 q= .tup [.agg q.1.cs,.slice 20 (q.2.map Ac.cs)]:=rfl
theorem qLV (n:Nd) (id:Int) (h:n.mid 100000):fn C 180 [] [(aNd n),.int .i64 id]=some (qb4 (qhv n id),[]):=by
 have jl:=h.jl
 unfold qhv
 rcases qch n.jobs id with ⟨i,hi,hid,_,hf⟩|⟨_,hf⟩
 ·by_cases hk:n.jobs[i].kind=4
  ·rw [qA2 n id i hi hf hk h,qmA hi hf hk,if_pos (by omega),Int.toNat_natCast,qtB,qdu hi]
   rfl
  ·rw [qgW hi hf hk,if_neg (by omega)]
   have row:=qdg n.jobs i hi
   rw [qah Tryz.func180 rfl rfl Tryz.results180 qwD.1 rfl rfl (by kernel_rfl)]
   simp -implicitDefEqProofs -dsimp +contextual (maxSteps:=9999999) (disch:=first | omega | simp only [go_sem]<;>omega | refine ib ?_;kernel_rfl) only [go_sem,seval,↓reduceIte,hf,row,hk,Nat.not_lt_zero]
 ·rw [qgX hf,if_neg (by omega)]
  rw [qah Tryz.func180 rfl rfl Tryz.results180 qwD.1 rfl rfl (by kernel_rfl)]
  simp -implicitDefEqProofs -dsimp +contextual (maxSteps:=9999999) (disch:=first | omega | simp only [go_sem]<;>omega | refine ib ?_;kernel_rfl) only [go_sem,seval,↓reduceIte,hf]
theorem qmD {n:Nd} {k:Nat} (i:Nat) (j:Jb) (h:n.mid k) (hj:j.asked.length≤k):({ n with jobs:=n.jobs.set i j }:Nd).mid k:=
 ⟨h.pl,h.ll,h.fl,h.sl,h.dl,h.il,by simp;exact h.jl,h.wl,h.rl,h.pe,h.pi,fun x hx=>by
  rcases List.mem_or_eq_of_mem_set hx with hx | rfl
  ·exact h.ja x hx
  ·exact hj,h.ik⟩
theorem qwP (l:List It) (x:It):(qfQ l x).length≤l.length+1:=by
 unfold qfQ;split
 ·simp
 ·simp;omega
theorem qwQ (l:List It) (x y:It) (h:y∈qfQ l x):y∈l∨y=x:=by
 unfold qfQ at h;split at h
 ·exact List.mem_or_eq_of_mem_set h
 ·rcases List.mem_append.1 h with h | h
  ·exact .inl (List.mem_of_mem_take h)
  ·rcases List.mem_cons.1 h with h | h
   ·exact .inr h
   ·exact .inl (List.mem_of_mem_drop h)
theorem qnw (l:List It) (k v:List UInt8) (g:Bool):(qcN l k v g).1.length≤l.length+1:=by
 have:=qwP l ⟨k,if g=true then [] else v,qBd (qdE l k).1.n,g⟩
 unfold qcN;split
 ·split
  ·simp
  ·split
   ·simp
   ·exact this
 ·simp
theorem qwR (l:List It) (k v:List UInt8) (g:Bool) (hk:k.length≤9223372036854775807) (h:∀x∈l,x.k.length≤9223372036854775807):∀x∈(qcN l k v g).1,x.k.length≤9223372036854775807:=by
 intro y hy
 unfold qcN at hy;split at hy
 ·split at hy
  ·exact h y hy
  ·split at hy
   ·exact h y hy
   ·rcases qwQ _ _ _ hy with hy | rfl
    ·exact h y hy
    ·exact hk
 ·exact h y hy
theorem qdR {n:Nd} {k:Nat} (key val:List UInt8) (gone:Bool) (back:En) (rid job:Int) (hk:key.length≤9223372036854775807) (h:n.mid k):(qat n key val gone back rid job).mid (k+1):=
 ⟨Nat.le_succ_of_le h.pl,Nat.le_succ_of_le h.ll,Nat.le_succ_of_le h.fl,Nat.le_succ_of_le h.sl,Nat.le_succ_of_le h.dl,Nat.le_trans (qnw ..) (Nat.succ_le_succ h.il),by simp [qat];exact h.jl,Nat.le_succ_of_le h.wl,Nat.le_succ_of_le h.rl,
  fun p hp=>Nat.le_succ_of_le (h.pe p hp),fun p hp=>Nat.le_succ_of_le (h.pi p hp),fun j hj=>by
   rcases List.mem_append.1 hj with hj | hj
   ·exact Nat.le_succ_of_le (h.ja j hj)
   ·rw [List.mem_singleton]at hj;rw [hj];exact Nat.zero_le _,qwR _ _ _ _ hk h.ik⟩
theorem qxX (n:Nd) (back:En) (rid job:Int) (x:It) (has:Bool) (e:Int) (h:n.mid 1000000):fn C 178 [] [(aNd n),.agg [.str back.name,.int .u64 (back.id:Int),.int .i64 back.fr,.int .i64 back.un,.int .i64 back.ix,.str back.tag],.int .i64 rid,.int .i64 job,.agg [.str x.k,.str x.v,.int .i64 x.n,.bool x.g],.bool has,.int .i64 e]=some (qb4 (qb6 n back rid job x has e),[]):=qFa n back rid job x has e h
theorem qLW (n:Nd) (key val:List UInt8) (gone:Bool) (back:En) (rid job:Int) (hk:key.length≤9223372036854775807) (hv:val.length≤9223372036854775807) (hc:0≤n.clock∧n.clock≤1099511627776) (hj0 : -9223372036854775808≤n.jobId∧n.jobId≤9223372036854775807) (h:n.mid 90000) :
  fn C 115 [] [(aNd n),.str key,.str val,.bool gone,.agg [.str back.name,.int .u64 (back.id:Int),.int .i64 back.fr,.int .i64 back.un,.int .i64 back.ix,.str back.tag],.int .i64 rid,.int .i64 job]=some (qb4 (qdX n key val gone back rid job),[]):=by
 have jl:=h.jl
 have il:=h.il
 have put:=qMg n.items key val gone (by omega) h.ik hk
 unfold qdX
 by_cases h8:8≤n.jobs.length
 ·have te:=qxX n back rid job qa6 false 41 (h.le (by omega))
  simp only [aNd,qe7,qe8,qe9,qfa]at te
  have hb:qaK n key val gone=41:=by unfold qaK;rw [if_pos h8]
  rw [hb,if_neg (by decide)]
  generalize qb6 n back rid job qa6 false 41=q at te ⊢
  have h7:7<n.jobs.length:=by omega
  rw [qah Tryz.func115 rfl rfl Tryz.results115 qpG.1 rfl rfl (by kernel_rfl)]
  simp -implicitDefEqProofs -dsimp +contextual (maxSteps:=9999999) (disch:=first | omega | simp only [go_sem]<;>omega | refine ib ?_;kernel_rfl) only [go_sem,seval,↓reduceIte,h7,te]
 ·have hb:qaK n key val gone=(qcN n.items key val gone).2.2:=by unfold qaK;rw [if_neg h8]
  have h7:¬7<n.jobs.length:=by omega
  rw [hb]
  by_cases he:(qcN n.items key val gone).2.2=0
  ·rw [if_pos he]
   have mr:=qLV (qat n key val gone back rid job) (qbs n.jobId) ((qdR key val gone back rid job hk h).le (by omega))
   have hq:(qcN n.items key val gone).1.length≤100000:=Nat.le_trans (qnw ..) (by omega)
   unfold qat qfC jbZ enZ at mr ⊢
   try simp only at mr ⊢
   generalize qcN n.items key val gone=p at *
   generalize qhv _ _=q at mr ⊢
   obtain ⟨p1,p2,p3⟩:=p
   try simp only at he hq put mr
   subst he
   simp only [aNd,List.map_append,List.map_cons,List.map_nil,Jb.cs_eq,qe7,qe8,qe9,qfa,Int.cast_ofNat_Int]at mr
   by_cases g1:n.jobId<0
   ·have hn:qbs n.jobId=1:=by unfold qbs;rw [if_pos (.inl g1)]
    rw [hn]at mr
    rw [qah Tryz.func115 rfl rfl Tryz.results115 qpG.1 rfl rfl (by kernel_rfl)]
    simp -implicitDefEqProofs -dsimp +contextual (maxSteps:=9999999) (disch:=first | omega | simp only [go_sem]<;>omega | refine ib ?_;kernel_rfl) only [go_sem,seval,↓reduceIte,h7,put,g1,mr]
   ·by_cases g2:1073741824≤n.jobId
    ·have hn:qbs n.jobId=1:=by unfold qbs;rw [if_pos (.inr g2)]
     rw [hn]at mr
     rw [qah Tryz.func115 rfl rfl Tryz.results115 qpG.1 rfl rfl (by kernel_rfl)]
     simp -implicitDefEqProofs -dsimp +contextual (maxSteps:=9999999) (disch:=first | omega | simp only [go_sem]<;>omega | refine ib ?_;kernel_rfl) only [go_sem,seval,↓reduceIte,h7,put,g1,g2,mr]
    ·have hn:qbs n.jobId=n.jobId+1:=by unfold qbs;rw [if_neg (by omega)]
     rw [hn]at mr
     rw [qah Tryz.func115 rfl rfl Tryz.results115 qpG.1 rfl rfl (by kernel_rfl)]
     simp -implicitDefEqProofs -dsimp +contextual (maxSteps:=9999999) (disch:=first | omega | simp only [go_sem]<;>omega | refine ib ?_;kernel_rfl) only [go_sem,seval,↓reduceIte,h7,put,g1,g2,mr]
  ·rw [if_neg he]
   have te:=qxX n back rid job qa6 false (qcN n.items key val gone).2.2 (h.le (by omega))
   simp only [aNd,qe7,qe8,qe9,qfa]at te
   generalize qb6 n back rid job qa6 false _=q at te ⊢
   generalize qcN n.items key val gone=p at *
   rw [qah Tryz.func115 rfl rfl Tryz.results115 qpG.1 rfl rfl (by kernel_rfl)]
   simp -implicitDefEqProofs -dsimp +contextual (maxSteps:=9999999) (disch:=first | omega | simp only [go_sem]<;>omega | refine ib ?_;kernel_rfl) only [go_sem,seval,↓reduceIte,h7,put,he,te]
end Go.Proofs.YtnpkhdjgedeppaaGreatDoor
namespace Go.Proofs.YtnpkhdjgedeppaaGreatDoor
set_option maxHeartbeats 64000000
open Go.Am
set_option linter.unusedSimpArgs false
set_option linter.unusedVariables false
set_option maxRecDepth 100000
noncomputable def qbd (js:List Jb) (i:Nat) (R:List AVal):List (List AVal):=(js.map Jb.cs).set i R
@[go_sem] theorem qFc (js i R):(qbd js i R).length=js.length:=by simp [qbd]
theorem qcA {js:List Jb} {i:Nat} (hi:i<js.length) (R):(qbd js i R)[i]?=some R:=by simp [qbd,hi]
@[go_sem] theorem qFd (js i R R'):(qbd js i R).set i R'=qbd js i R':=by simp [qbd]
@[go_sem] theorem qA3 (js:List Jb) (i:Nat) (a0 a1 a2 a3 a4 a5 a6 a7 a8 a9:Int) (k v:List UInt8) (o b:En) (x:It) (l:List (List UInt8)):qbd js i [.int .i64 a0,.int .i64 a1,.int .i64 a2,.int .i64 a3,.int .i64 a4,.int .i64 a5,.str k,.str v,.str o.name,.int .u64 (o.id:Int),.int .i64 o.fr,.int .i64 o.un,.int .i64 o.ix,.str o.tag,.str x.k,.str x.v,.int .i64 x.n,.bool x.g,.int .i64 a6,.int .i64 a7,.slice 1 (l.map qaG),.str b.name,.int .u64 (b.id:Int),.int .i64 b.fr,.int .i64 b.un,.int .i64 b.ix,.str b.tag,.int .i64 a8,.int .i64 a9]=(js.set i ⟨a0,a1,a2,a3,a4,a5,k,v,o,x,a6,a7,l,b,a8,a9⟩).map Jb.cs:=by unfold qbd;rw [List.map_set];rfl
theorem qmE {js:List Jb} {i:Nat} (R):(js.map Jb.cs).set i R=qbd js i R:=rfl
theorem qiR (H:qac):∀(d:Nat) (v:AVal),v.plain=true→pkE H d v=some (v,[])
 | 0,v,h=>by cases v<;>simp [AVal.plain]at h<;>rfl
 | d+1,v,h=>by cases v<;>simp [AVal.plain]at h<;>rfl
theorem qgZ (H:qac) (d:Nat):∀l:List AVal,(∀v∈l,v.plain=true)→pkL (pkE H d) l=some (l,[])
 | [],_=>rfl
 | v::l,h=>by
  rw [pkL,qiR H d v (h v (by simp)),Option.bind_some,qgZ H d l (fun w hw=>h w (by simp [hw]))]
  rfl
theorem qnx (j:Jb):∀v∈j.cs,v.plain=true:=by
 intro v hv
 simp only [Jb.cs,List.mem_cons,List.not_mem_nil,or_false]at hv
 rcases hv with rfl | rfl | rfl | rfl | rfl | rfl | rfl | rfl | rfl | rfl | rfl | rfl | rfl | rfl | rfl | rfl | rfl | rfl | rfl | rfl | rfl | rfl | rfl | rfl | rfl | rfl | rfl | rfl | rfl<;>rfl
theorem qkx (H:qac) (d:Nat):∀js:List Jb,qlz (pkE H d) (js.map Jb.cs)=some (js.map Jb.cs,[])
 | []=>rfl
 | j::js=>by
  rw [List.map_cons,qlz,qgZ H d _ (qnx j),Option.bind_some,qkx H d js]
  rfl
theorem qny (H:qac) (d:Nat) (R:List AVal):∀(js:List Jb) (i:Nat),i<js.length→qlz (pkE H d) ((js.map Jb.cs).set i R)=(pkL (pkE H d) R).bind fun p=>some ((js.map Jb.cs).set i p.1,p.2)
 | [],i,h=>by simp at h
 | j::js,0,_=>by
  rw [List.map_cons,List.set_cons_zero,qlz,qkx]
  cases pkL (pkE H d) R<;>simp
 | j::js,i+1,h=>by
  rw [List.map_cons,List.set_cons_succ,qlz,qgZ H d _ (qnx j),Option.bind_some,qny H d R js i (by simpa using h)]
  cases pkL (pkE H d) R<;>simp
theorem qmF (f:AVal→Option (AVal×List Nat)):∀(a b:List AVal),(∀v∈a,f v=some (v,[]))→pkL f (a++b)=(pkL f b).bind fun p=>some (a++p.1,p.2)
 | [],b,_=>by cases h:pkL f b<;>simp [h]
 | v::a,b,h=>by
  rw [List.cons_append,pkL,h v (by simp),Option.bind_some,qmF f a b (fun w hw=>h w (by simp [hw]))]
  cases h2:pkL f b<;>simp [h2]
theorem qA4 (f:AVal→Option (AVal×List Nat)) (a b:List AVal) (A:AVal) (ha:∀v∈a,f v=some (v,[])) (hb:∀v∈b,f v=some (v,[])):pkL f (a++A::b)=(f A).bind fun p=>some (a++p.1::b,p.2):=by
 have e:=qmF f b [] hb
 simp only [List.append_nil,pkL,Option.bind_some]at e
 rw [qmF f a _ ha,pkL,e]
 cases h2:f A<;>simp [h2]
def qwS (a0 a1 a2 a3 a4 a5 a6 a7:Int) (k v:List UInt8) (o:En) (x:It):List AVal:=[.int .i64 a0,.int .i64 a1,.int .i64 a2,.int .i64 a3,.int .i64 a4,.int .i64 a5,.str k,.str v,.str o.name,.int .u64 (o.id:Int),.int .i64 o.fr,.int .i64 o.un,.int .i64 o.ix,.str o.tag,.str x.k,.str x.v,.int .i64 x.n,.bool x.g,.int .i64 a6,.int .i64 a7]
def qnz (b:En) (a8 a9:Int):List AVal:=[.str b.name,.int .u64 (b.id:Int),.int .i64 b.fr,.int .i64 b.un,.int .i64 b.ix,.str b.tag,.int .i64 a8,.int .i64 a9]
theorem qwT (a0 a1 a2 a3 a4 a5 a6 a7 a8 a9:Int) (k v:List UInt8) (o b:En) (x:It) (A:AVal):[.int .i64 a0,.int .i64 a1,.int .i64 a2,.int .i64 a3,.int .i64 a4,.int .i64 a5,.str k,.str v,.str o.name,.int .u64 (o.id:Int),.int .i64 o.fr,.int .i64 o.un,.int .i64 o.ix,.str o.tag,.str x.k,.str x.v,.int .i64 x.n,.bool x.g,.int .i64 a6,.int .i64 a7,A,.str b.name,.int .u64 (b.id:Int),.int .i64 b.fr,.int .i64 b.un,.int .i64 b.ix,.str b.tag,.int .i64 a8,.int .i64 a9]=qwS a0 a1 a2 a3 a4 a5 a6 a7 k v o x++A::qnz b a8 a9:=rfl
theorem qmG (a0 a1 a2 a3 a4 a5 a6 a7:Int) (k v:List UInt8) (o:En) (x:It):∀w∈qwS a0 a1 a2 a3 a4 a5 a6 a7 k v o x,w.plain=true:=by
 intro w hw
 simp only [qwS,List.mem_cons,List.not_mem_nil,or_false]at hw
 rcases hw with rfl | rfl | rfl | rfl | rfl | rfl | rfl | rfl | rfl | rfl | rfl | rfl | rfl | rfl | rfl | rfl | rfl | rfl | rfl | rfl<;>rfl
theorem qky (b:En) (a8 a9:Int):∀w∈qnz b a8 a9,w.plain=true:=by
 intro w hw
 simp only [qnz,List.mem_cons,List.not_mem_nil,or_false]at hw
 rcases hw with rfl | rfl | rfl | rfl | rfl | rfl | rfl | rfl<;>rfl
theorem qbH {β:Type} (H:qac) (d:Nat) (js:List Jb) (i:Nat) (a0 a1 a2 a3 a4 a5 a6 a7 a8 a9:Int) (k v:List UInt8) (o b:En) (x:It) (A:AVal) (hi:i<js.length) (hA:A.clo=false∨A.plain=true) (K:List (List AVal)×List Nat→Option β) :
  @kB _ _ (qej (pkE H d) (qbd js i [.int .i64 a0,.int .i64 a1,.int .i64 a2,.int .i64 a3,.int .i64 a4,.int .i64 a5,.str k,.str v,.str o.name,.int .u64 (o.id:Int),.int .i64 o.fr,.int .i64 o.un,.int .i64 o.ix,.str o.tag,.str x.k,.str x.v,.int .i64 x.n,.bool x.g,.int .i64 a6,.int .i64 a7,A,.str b.name,.int .u64 (b.id:Int),.int .i64 b.fr,.int .i64 b.un,.int .i64 b.ix,.str b.tag,.int .i64 a8,.int .i64 a9])) ⟨K⟩=@kB _ _ (pkE H d A) ⟨fun p=>K (qbd js i [.int .i64 a0,.int .i64 a1,.int .i64 a2,.int .i64 a3,.int .i64 a4,.int .i64 a5,.str k,.str v,.str o.name,.int .u64 (o.id:Int),.int .i64 o.fr,.int .i64 o.un,.int .i64 o.ix,.str o.tag,.str x.k,.str x.v,.int .i64 x.n,.bool x.g,.int .i64 a6,.int .i64 a7,p.1,.str b.name,.int .u64 (b.id:Int),.int .i64 b.fr,.int .i64 b.un,.int .i64 b.ix,.str b.tag,.int .i64 a8,.int .i64 a9],p.2)⟩:=by
 have h1:=qA4 (pkE H d) (qwS a0 a1 a2 a3 a4 a5 a6 a7 k v o x) (qnz b a8 a9) A (fun w hw=>qiR H d w (qmG _ _ _ _ _ _ _ _ _ _ _ _ w hw)) (fun w hw=>qiR H d w (qky _ _ _ w hw))
 rw [←qwT]at h1
 have h2:=qny H d [.int .i64 a0,.int .i64 a1,.int .i64 a2,.int .i64 a3,.int .i64 a4,.int .i64 a5,.str k,.str v,.str o.name,.int .u64 (o.id:Int),.int .i64 o.fr,.int .i64 o.un,.int .i64 o.ix,.str o.tag,.str x.k,.str x.v,.int .i64 x.n,.bool x.g,.int .i64 a6,.int .i64 a7,A,.str b.name,.int .u64 (b.id:Int),.int .i64 b.fr,.int .i64 b.un,.int .i64 b.ix,.str b.tag,.int .i64 a8,.int .i64 a9] js i hi
 rw [h1]at h2
 unfold qej qbd
 split
 ·rename_i hc
  have hp:A.plain=true:=by
   rcases hA with hA | hA
   ·have:=List.all_eq_true.1 hc [.int .i64 a0,.int .i64 a1,.int .i64 a2,.int .i64 a3,.int .i64 a4,.int .i64 a5,.str k,.str v,.str o.name,.int .u64 (o.id:Int),.int .i64 o.fr,.int .i64 o.un,.int .i64 o.ix,.str o.tag,.str x.k,.str x.v,.int .i64 x.n,.bool x.g,.int .i64 a6,.int .i64 a7,A,.str b.name,.int .u64 (b.id:Int),.int .i64 b.fr,.int .i64 b.un,.int .i64 b.ix,.str b.tag,.int .i64 a8,.int .i64 a9] (List.mem_of_getElem? (i:=i) (by simp [hi]))
    simp [qbN,hA]at this
   ·exact hA
  rw [qiR H d A hp]
  rfl
 ·rw [h2]
  cases h3:pkE H d A with
  | none=>rfl
  | some p=>rfl
noncomputable def nlB (g:Int):FuncId→List (Nat×Nat):=fun f=>if f=109 then (if g= -2 then [] else [(91,2001)]) else M.nl f
noncomputable def M1 (g:Int):Mds:={ M with nl:=nlB g,inls:=[(166,20000),(154,40000),(13,60000),(168,80000)],gh:=some (55,3,g) }
noncomputable def qA5:Own:=fun f=>if f=62 then some (qaQ 1) else if f=109 then none else if f=999999 then none else if f=203 then none else some (fun ex ds=>fn C f ex ds)
theorem qmH:qgN E qA5:=by
 intro f g ex ds q hf hg
 unfold qA5 at hf
 split at hf
 ·rename_i e
  subst e
  simp only [Option.some.injEq]at hf
  subst hf
  exact qbB qnF qx1 ex ds q hg
 ·split at hf
  ·cases hf
  ·split at hf
   ·cases hf
   ·split at hf
    ·cases hf
    ·simp only [Option.some.injEq]at hf
     subst hf
     exact qam qbb qsV hg
noncomputable def C1 (g:Int):Cf:=⟨E,M1 g,qA5⟩
section
variable (g:Int)
@[go_sem] theorem qNn:(C1 g).E=E:=rfl
@[go_sem] theorem qNo:(C1 g).M=M1 g:=rfl
@[go_sem] theorem qJJ:(M1 g).par=M.par:=Eq.trans rfl rfl
@[go_sem] theorem qJK:(M1 g).res=M.res:=Eq.trans rfl rfl
@[go_sem] theorem qJL:(M1 g).loc=M.loc:=Eq.trans rfl rfl
@[go_sem] theorem qLX:(M1 g).nl=nlB g:=Eq.trans rfl rfl
@[go_sem] theorem qJM:nlB g 154=M.nl 154:=if_neg (by decide)
@[go_sem] theorem qGi:nlB g 13=M.nl 13:=if_neg (by decide)
@[go_sem] theorem qGj:nlB g 168=M.nl 168:=if_neg (by decide)
@[go_sem] theorem qGk:nlB g 166=M.nl 166:=if_neg (by decide)
@[go_sem] theorem qHL:nlB (-2) 109=[]:=by unfold nlB;rw [if_pos rfl,if_pos rfl]
theorem qwU (h:¬g= -2):nlB g 109=[(91,2001)]:=by unfold nlB;rw [if_pos rfl,if_neg h]
@[go_sem] theorem qJN:(M1 g).cur=[]:=Eq.trans rfl rfl
@[go_sem] theorem qHM:(M1 g).base=0:=Eq.trans rfl rfl
@[go_sem] theorem qHN:(M1 g).inls=[(166,20000),(154,40000),(13,60000),(168,80000)]:=Eq.trans rfl rfl
@[go_sem] theorem qLY:(M1 g).gh=some (55,3,g):=Eq.trans rfl rfl
@[go_sem] theorem qJO {α γ β:Type} (f:γ→α) (x:Option γ) (K:α→Option β):@kB _ _ (x.map f) ⟨K⟩=@kB _ _ x ⟨fun a=>K (f a)⟩:=by cases x<;>rfl
def ghV (v:AVal) (n:Int) (C:Orc):Orc:=match v with | .int _ m=>if m=n then C else qc5 C | _=>C
@[go_sem] theorem qHO (d t:Nat) (n:Int) (e:Tmp) (ρ:Operand→AVal) (C:Orc):ghO (some (d,t,n)) (some e) ρ C=if e=d then ghV (ρ (.tmp t)) n C else C:=by
 show (if some e=some d then _ else _)=_
 by_cases h:e=d
 ·subst h;rw [if_pos rfl,if_pos rfl];rfl
 ·rw [if_neg (by simpa using h),if_neg h]
@[go_sem] theorem qHP (k:IntKind) (m n:Int) (C:Orc):ghV (.int k m) n C=if m=n then C else qc5 C:=Eq.trans rfl rfl
@[go_sem] theorem qFe (C:Orc) (f ex ds):qc5 C f ex ds=(C f ex ds).map fun q=>(qq3 q.1,q.2):=Eq.trans rfl rfl
@[go_sem] theorem qBR (st es):qq3 (.usl st es)= .slice st es:=Eq.trans rfl rfl
theorem qec (f:FuncId) (h0:f≠62) (h1:f≠109) (h2:f≠999999) (h3:f≠203) (ex ds):fn (C1 g) f ex ds=fn C f ex ds:=
 qbC (g:=fun ex ds=>fn C f ex ds) (by show qA5 f=_;unfold qA5;rw [if_neg h0,if_neg h1,if_neg h2,if_neg h3]) ex ds
@[go_sem] theorem qGl (es:List (List AVal)):fn (C1 g) 62 [] [.slice 1 es]=gu (qav es=true) (some (.usl 1 es,[])):=by
 rw [qbC (g:=qaQ 1) (by show qA5 62=_;unfold qA5;rw [if_pos rfl])]
 simp [qaQ,gu]
@[go_sem] theorem qkW (ex ds):fn (C1 g) 224 ex ds=fn C 224 ex ds:=qec g _ (by decide) (by decide) (by decide) (by decide) ex ds
@[go_sem] theorem qwV (ex ds):fn (C1 g) 225 ex ds=fn C 225 ex ds:=qec g _ (by decide) (by decide) (by decide) (by decide) ex ds
@[go_sem] theorem qey (ex ds):fn (C1 g) 226 ex ds=fn C 226 ex ds:=qec g _ (by decide) (by decide) (by decide) (by decide) ex ds
@[go_sem] theorem qmI (ex ds):fn (C1 g) 213 ex ds=fn C 213 ex ds:=qec g _ (by decide) (by decide) (by decide) (by decide) ex ds
@[go_sem] theorem qnA (ex ds):fn (C1 g) 227 ex ds=fn C 227 ex ds:=qec g _ (by decide) (by decide) (by decide) (by decide) ex ds
@[go_sem] theorem qmJ (ex ds):fn (C1 g) 165 ex ds=fn C 165 ex ds:=qec g _ (by decide) (by decide) (by decide) (by decide) ex ds
@[go_sem] theorem qxY (ex ds):fn (C1 g) 164 ex ds=fn C 164 ex ds:=qec g _ (by decide) (by decide) (by decide) (by decide) ex ds
@[go_sem] theorem qtJ (ex ds):fn (C1 g) 167 ex ds=fn C 167 ex ds:=qec g _ (by decide) (by decide) (by decide) (by decide) ex ds
@[go_sem] theorem qwW (ex ds):fn (C1 g) 57 ex ds=fn C 57 ex ds:=qec g _ (by decide) (by decide) (by decide) (by decide) ex ds
@[go_sem] theorem qel (ex ds):fn (C1 g) 54 ex ds=fn C 54 ex ds:=qec g _ (by decide) (by decide) (by decide) (by decide) ex ds
@[go_sem] theorem qdG (ex ds):fn (C1 g) 55 ex ds=fn C 55 ex ds:=qec g _ (by decide) (by decide) (by decide) (by decide) ex ds
@[go_sem] theorem qdA (ex ds):fn (C1 g) 56 ex ds=fn C 56 ex ds:=qec g _ (by decide) (by decide) (by decide) (by decide) ex ds
@[go_sem] theorem qem (ex ds):fn (C1 g) 58 ex ds=fn C 58 ex ds:=qec g _ (by decide) (by decide) (by decide) (by decide) ex ds
@[go_sem] theorem qeF (ex ds):fn (C1 g) 59 ex ds=fn C 59 ex ds:=qec g _ (by decide) (by decide) (by decide) (by decide) ex ds
@[go_sem] theorem qdH (ex ds):fn (C1 g) 61 ex ds=fn C 61 ex ds:=qec g _ (by decide) (by decide) (by decide) (by decide) ex ds
@[go_sem] theorem qfd (ex ds):fn (C1 g) 60 ex ds=fn C 60 ex ds:=qec g _ (by decide) (by decide) (by decide) (by decide) ex ds
end
end Go.Proofs.YtnpkhdjgedeppaaGreatDoor
namespace Go.Proofs.YtnpkhdjgedeppaaGreatDoor
set_option maxHeartbeats 64000000
open Go.Am
set_option linter.unusedSimpArgs false
set_option linter.unusedVariables false
set_option maxRecDepth 100000
structure WorkO (H:qac) (n:Nd) (rows:List (List AVal)):Prop where
 w:H 40106=⟨1,.live,23,[[.str n.me.name,.int .u64 (n.me.id:Int),.int .i64 n.me.fr,.int .i64 n.me.un,.int .i64 n.me.ix,.str n.me.tag,.int .i64 n.clock,.str n.psk,.int .i64 n.gateI,.str n.gateK,.bool n.ready,.slice 8 (n.pred.map Pr.cs),.slice 8 (n.list.map Pr.cs),.slice 9 (n.fingers.map Fg.cs),.osl 60118 1 0 n.sessions.length,.osl 60121 1 0 n.pends.length,.slice 4 (n.items.map It.cs),.osl 60130 1 0 n.jobs.length,.int .i64 n.rid,.int .i64 n.jobId,.slice 1 (n.draws.map qaw),.osl 60136 1 0 n.results.length,.sc (.slice none 0 0)]],false⟩
 s:H 60118=⟨1,.live,20,n.sessions.map Se.cs,false⟩
 p:H 60121=⟨1,.live,23,n.pends.map Pd.cs,false⟩
 j:H 60130=⟨1,.live,29,rows,false⟩
 r:H 60136=⟨1,.live,8,n.results.map Rs.cs,false⟩
@[go_sem] theorem qNp:M.nl 154=[]:=Eq.trans rfl rfl
@[go_sem] theorem qJP:M.nl 13=[]:=Eq.trans rfl rfl
theorem qnB (n:Nd) (h:n.mid 1000000) (g:Int) (hg:∀i:Nat,i<n.jobs.length→¬((i:Int)=g)) (H:qac) (hH:∀o,40000≤o→H o=⟨0,.dead,0,[],false⟩) (K:AVal×qac→Option Res) (R:Option Res)
  (k:∀H',WorkO H' n (n.jobs.map Jb.cs)→(∀o,o<40000→H' o=H o)→K (.ptr 40106 1 0 0,H')=R):@kB _ _ (il (C1 g) 154 [(aNd n)] H) ⟨K⟩=R:=by
 have:=h.pl;have:=h.ll;have:=h.fl;have:=h.sl;have:=h.dl;have:=h.il;have:=h.jl;have:=h.wl;have:=h.rl
 have pc:=e57 n.pends h.dl h.pe h.pi
 have g1:=hH 40101 (by omega);have g2:=hH 40106 (by omega);have g3:=hH 60101 (by omega);have g4:=hH 60102 (by omega);have g5:=hH 60118 (by omega);have g6:=hH 60121 (by omega);have g7:=hH 60130 (by omega);have g8:=hH 60136 (by omega)
 rw [qaD (C:=C1 g) Tryz.func154 rfl Tryz.results154 (show (C1 g).M.loc 154=_ from qAL.1) (by kernel_rfl)]
 simp -implicitDefEqProofs -dsimp +contextual (maxSteps:=9999999) (disch:=first | omega | simp only [go_sem]<;>omega | refine ib ?_;kernel_rfl) only [go_sem,seval,↓reduceIte,g1,g2]
 rw [qaD (C:=C1 g) Tryz.func13 rfl Tryz.results13 (show (C1 g).M.loc 13=_ from qF6.1) (by kernel_rfl)]
 simp -implicitDefEqProofs -dsimp +contextual (maxSteps:=9999999) (disch:=first | omega | simp only [go_sem]<;>omega | refine ib ?_;kernel_rfl) only [go_sem,seval,↓reduceIte,g1,g2,g3,g4,g5,g6,g7,g8,pc]
 refine qeb n.jobs.length (fun i f H'=>f 1= .ptr 60101 1 0 0∧f 2= .ptr 60102 1 0 0∧f 42= .int .i64 (n.jobs.length:Nat)∧f 43= .int .i64 (i:Nat)∧
  H' 60101=⟨1,.live,22,[[.str n.me.name,.int .u64 (n.me.id:Int),.int .i64 n.me.fr,.int .i64 n.me.un,.int .i64 n.me.ix,.str n.me.tag,.int .i64 n.clock,.str n.psk,.int .i64 n.gateI,.str n.gateK,.bool n.ready,.slice 8 (n.pred.map Pr.cs),.slice 8 (n.list.map Pr.cs),.slice 9 (n.fingers.map Fg.cs),.osl 60118 1 0 n.sessions.length,.osl 60121 1 0 n.pends.length,.slice 4 (n.items.map It.cs),.osl 60130 1 0 n.jobs.length,.int .i64 n.rid,.int .i64 n.jobId,.slice 1 (n.draws.map qaw),.osl 60136 1 0 n.results.length]],false⟩∧(H' 60102).gen=1∧(H' 60102).mode= .live∧(∃r:List AVal,r.length=22∧(H' 60102).rows=[r])∧
  H' 60118=⟨1,.live,20,n.sessions.map Se.cs,false⟩∧H' 60121=⟨1,.live,23,n.pends.map Pd.cs,false⟩∧H' 60130=⟨1,.live,29,n.jobs.map Jb.cs,false⟩∧H' 60136=⟨1,.live,8,n.results.map Rs.cs,false⟩∧H' 40106=⟨0,.dead,0,[],false⟩∧(∀o,o<40000→H' o=H o)) ?_ ?_
  (by exact ⟨rfl,rfl,rfl,rfl,rfl,rfl,rfl,⟨_,rfl,rfl⟩,rfl,rfl,rfl,rfl,g2,fun o ho=>by repeat (first | rfl | rw [qac.set_ne _ _ (by omega)])⟩)
 ·rintro i f H' hi ⟨f1,f2,f42,f43,H1,H2,H2m,⟨r,hr,H2r⟩,H3,H4,H5,H6,H7,H8⟩ ih
  have row:=qdg n.jobs i hi
  have st:(n.jobs.map Jb.cs).set i [.int .i64 n.jobs[i].id,.int .i64 n.jobs[i].kind,.int .i64 n.jobs[i].phase,.int .i64 n.jobs[i].hops,.int .i64 n.jobs[i].tries,.int .i64 n.jobs[i].til,.str n.jobs[i].key,.str n.jobs[i].val,.str n.jobs[i].owner.name,.int .u64 (n.jobs[i].owner.id:Int),.int .i64 n.jobs[i].owner.fr,.int .i64 n.jobs[i].owner.un,.int .i64 n.jobs[i].owner.ix,.str n.jobs[i].owner.tag,.str n.jobs[i].item.k,.str n.jobs[i].item.v,.int .i64 n.jobs[i].item.n,.bool n.jobs[i].item.g,.int .i64 n.jobs[i].acks,.int .i64 n.jobs[i].waits,.slice 1 (n.jobs[i].asked.map qaG),.str n.jobs[i].back.name,.int .u64 (n.jobs[i].back.id:Int),.int .i64 n.jobs[i].back.fr,.int .i64 n.jobs[i].back.un,.int .i64 n.jobs[i].back.ix,.str n.jobs[i].back.tag,.int .i64 n.jobs[i].backRid,.int .i64 n.jobs[i].backJob]=n.jobs.map Jb.cs:=qhd Jb.cs n.jobs i hi
  have al:=h.ja _ (List.getElem_mem hi)
  have ne:=hg i hi
  simp -implicitDefEqProofs -dsimp +contextual (maxSteps:=9999999) (disch:=first | omega | simp only [go_sem]<;>omega | refine ib ?_;kernel_rfl) only [go_sem,seval,↓reduceIte,f1,f2,f42,f43,H1,H5,hi,row,st,al,ne]
  exact ih _ _ (by exact ⟨f1,f2,f42,rfl,H1,H2,H2m,⟨r,hr,H2r⟩,H3,H4,by first | exact H5 | rfl,H6,H7,fun o ho=>by repeat (first | exact H8 o ho | rw [qac.set_ne _ _ (by omega)])⟩)
 ·rintro f H' ⟨f1,f2,f42,f43,H1,H2,H2m,⟨r,hr,H2r⟩,H3,H4,H5,H6,H7,H8⟩
  simp -implicitDefEqProofs -dsimp +contextual (maxSteps:=9999999) (disch:=first | omega | simp only [go_sem]<;>omega | refine ib ?_;kernel_rfl) only [go_sem,seval,↓reduceIte,f1,f2,f42,f43,H1,H2,H2m,H2r,hr,H3,H4,H5,H6,H7]
  exact k _ ⟨rfl,H3,H4,H5,H6⟩ (fun o ho=>by repeat (first | exact H8 o ho | rw [qac.set_ne _ _ (by omega)]))
theorem qkz {js:List Jb} {i k:Nat} (hk:k<js.length) (hn:¬k=i) (R):(qbd js i R)[k]?=some js[k].cs:=by
 unfold qbd;rw [List.getElem?_set_ne (fun e=>hn e.symm),List.getElem?_map,List.getElem?_eq_getElem hk];rfl
theorem qpM {js:List Jb} {i k:Nat} (hk:k<js.length) (hn:¬k=i) (R):(qbd js i R).set k [.int .i64 js[k].id,.int .i64 js[k].kind,.int .i64 js[k].phase,.int .i64 js[k].hops,.int .i64 js[k].tries,.int .i64 js[k].til,.str js[k].key,.str js[k].val,.str js[k].owner.name,.int .u64 (js[k].owner.id:Int),.int .i64 js[k].owner.fr,.int .i64 js[k].owner.un,.int .i64 js[k].owner.ix,.str js[k].owner.tag,.str js[k].item.k,.str js[k].item.v,.int .i64 js[k].item.n,.bool js[k].item.g,.int .i64 js[k].acks,.int .i64 js[k].waits,.slice 1 (js[k].asked.map qaG),.str js[k].back.name,.int .u64 (js[k].back.id:Int),.int .i64 js[k].back.fr,.int .i64 js[k].back.un,.int .i64 js[k].back.ix,.str js[k].back.tag,.int .i64 js[k].backRid,.int .i64 js[k].backJob]=qbd js i R:=by
 unfold qbd
 rw [List.set_comm _ _ (fun e=>hn e.symm)]
 congr 1
 exact qhd Jb.cs js k hk
noncomputable def qed (n:Nd) (i m:Nat) (hi:i<n.jobs.length):List (List AVal):=if i<m then qbd n.jobs i [.int .i64 n.jobs[i].id,.int .i64 n.jobs[i].kind,.int .i64 n.jobs[i].phase,.int .i64 n.jobs[i].hops,.int .i64 n.jobs[i].tries,.int .i64 n.jobs[i].til,.str n.jobs[i].key,.str n.jobs[i].val,.str n.jobs[i].owner.name,.int .u64 (n.jobs[i].owner.id:Int),.int .i64 n.jobs[i].owner.fr,.int .i64 n.jobs[i].owner.un,.int .i64 n.jobs[i].owner.ix,.str n.jobs[i].owner.tag,.str n.jobs[i].item.k,.str n.jobs[i].item.v,.int .i64 n.jobs[i].item.n,.bool n.jobs[i].item.g,.int .i64 n.jobs[i].acks,.int .i64 n.jobs[i].waits,.osl 60155 1 0 n.jobs[i].asked.length,.str n.jobs[i].back.name,.int .u64 (n.jobs[i].back.id:Int),.int .i64 n.jobs[i].back.fr,.int .i64 n.jobs[i].back.un,.int .i64 n.jobs[i].back.ix,.str n.jobs[i].back.tag,.int .i64 n.jobs[i].backRid,.int .i64 n.jobs[i].backJob] else n.jobs.map Jb.cs
theorem qFf (n:Nd) (h:n.mid 1000000) (i:Nat) (hi:i<n.jobs.length) (H:qac) (hH:∀o,40000≤o→H o=⟨0,.dead,0,[],false⟩) (K:AVal×qac→Option Res) (R:Option Res)
  (k:∀H',WorkO H' n (qbd n.jobs i [.int .i64 n.jobs[i].id,.int .i64 n.jobs[i].kind,.int .i64 n.jobs[i].phase,.int .i64 n.jobs[i].hops,.int .i64 n.jobs[i].tries,.int .i64 n.jobs[i].til,.str n.jobs[i].key,.str n.jobs[i].val,.str n.jobs[i].owner.name,.int .u64 (n.jobs[i].owner.id:Int),.int .i64 n.jobs[i].owner.fr,.int .i64 n.jobs[i].owner.un,.int .i64 n.jobs[i].owner.ix,.str n.jobs[i].owner.tag,.str n.jobs[i].item.k,.str n.jobs[i].item.v,.int .i64 n.jobs[i].item.n,.bool n.jobs[i].item.g,.int .i64 n.jobs[i].acks,.int .i64 n.jobs[i].waits,.osl 60155 1 0 n.jobs[i].asked.length,.str n.jobs[i].back.name,.int .u64 (n.jobs[i].back.id:Int),.int .i64 n.jobs[i].back.fr,.int .i64 n.jobs[i].back.un,.int .i64 n.jobs[i].back.ix,.str n.jobs[i].back.tag,.int .i64 n.jobs[i].backRid,.int .i64 n.jobs[i].backJob])→H' 60155=⟨1,.live,1,n.jobs[i].asked.map qaG,false⟩→(∀o,o<40000→H' o=H o)→K (.ptr 40106 1 0 0,H')=R):@kB _ _ (il (C1 (i:Int)) 154 [(aNd n)] H) ⟨K⟩=R:=by
 have:=h.pl;have:=h.ll;have:=h.fl;have:=h.sl;have:=h.dl;have:=h.il;have:=h.jl;have:=h.wl;have:=h.rl
 have pc:=e57 n.pends h.dl h.pe h.pi
 have g1:=hH 40101 (by omega);have g2:=hH 40106 (by omega);have g3:=hH 60101 (by omega);have g4:=hH 60102 (by omega);have g5:=hH 60118 (by omega);have g6:=hH 60121 (by omega);have g7:=hH 60130 (by omega);have g8:=hH 60136 (by omega);have g9:=hH 60155 (by omega)
 obtain ⟨g,hg⟩:∃g:Int,g=(i:Int):=⟨_,rfl⟩
 rw [←hg]
 rw [qaD (C:=C1 g) Tryz.func154 rfl Tryz.results154 (show (C1 g).M.loc 154=_ from qAL.1) (by kernel_rfl)]
 simp -implicitDefEqProofs -dsimp +contextual (maxSteps:=9999999) (disch:=first | omega | simp only [go_sem]<;>omega | refine ib ?_;kernel_rfl) only [go_sem,seval,↓reduceIte,g1,g2]
 rw [qaD (C:=C1 g) Tryz.func13 rfl Tryz.results13 (show (C1 g).M.loc 13=_ from qF6.1) (by kernel_rfl)]
 simp -implicitDefEqProofs -dsimp +contextual (maxSteps:=9999999) (disch:=first | omega | simp only [go_sem]<;>omega | refine ib ?_;kernel_rfl) only [go_sem,seval,↓reduceIte,g1,g2,g3,g4,g5,g6,g7,g8,pc]
 refine qeb n.jobs.length (fun m f H'=>f 1= .ptr 60101 1 0 0∧f 2= .ptr 60102 1 0 0∧f 42= .int .i64 (n.jobs.length:Nat)∧f 43= .int .i64 (m:Nat)∧
  H' 60101=⟨1,.live,22,[[.str n.me.name,.int .u64 (n.me.id:Int),.int .i64 n.me.fr,.int .i64 n.me.un,.int .i64 n.me.ix,.str n.me.tag,.int .i64 n.clock,.str n.psk,.int .i64 n.gateI,.str n.gateK,.bool n.ready,.slice 8 (n.pred.map Pr.cs),.slice 8 (n.list.map Pr.cs),.slice 9 (n.fingers.map Fg.cs),.osl 60118 1 0 n.sessions.length,.osl 60121 1 0 n.pends.length,.slice 4 (n.items.map It.cs),.osl 60130 1 0 n.jobs.length,.int .i64 n.rid,.int .i64 n.jobId,.slice 1 (n.draws.map qaw),.osl 60136 1 0 n.results.length]],false⟩∧(H' 60102).gen=1∧(H' 60102).mode= .live∧(∃r:List AVal,r.length=22∧(H' 60102).rows=[r])∧
  H' 60118=⟨1,.live,20,n.sessions.map Se.cs,false⟩∧H' 60121=⟨1,.live,23,n.pends.map Pd.cs,false⟩∧H' 60130=⟨1,.live,29,qed n i m hi,false⟩∧H' 60136=⟨1,.live,8,n.results.map Rs.cs,false⟩∧H' 40106=⟨0,.dead,0,[],false⟩∧(∀o,o<40000→H' o=H o)∧
  H' 60155=(if i<m then ⟨1,.live,1,n.jobs[i].asked.map qaG,false⟩ else ⟨0,.dead,0,[],false⟩)) ?_ ?_
  (by exact ⟨rfl,rfl,rfl,rfl,rfl,rfl,rfl,⟨_,rfl,rfl⟩,rfl,rfl,by unfold qed;rw [if_neg (by omega)];rfl,rfl,g2,fun o ho=>by repeat (first | rfl | rw [qac.set_ne _ _ (by omega)]),by rw [if_neg (by omega)];repeat (first | exact g9 | rw [qac.set_ne _ _ (by omega)])⟩)
 ·rintro m f H' hm ⟨f1,f2,f42,f43,H1,H2,H2m,⟨r,hr,H2r⟩,H3,H4,H5,H6,H7,H8,H9⟩ ih
  have al:=h.ja _ (List.getElem_mem hm)
  rcases Nat.lt_trichotomy m i with hlt | rfl | hlt
  ·have row:=qdg n.jobs m hm
   have st:(n.jobs.map Jb.cs).set m [.int .i64 n.jobs[m].id,.int .i64 n.jobs[m].kind,.int .i64 n.jobs[m].phase,.int .i64 n.jobs[m].hops,.int .i64 n.jobs[m].tries,.int .i64 n.jobs[m].til,.str n.jobs[m].key,.str n.jobs[m].val,.str n.jobs[m].owner.name,.int .u64 (n.jobs[m].owner.id:Int),.int .i64 n.jobs[m].owner.fr,.int .i64 n.jobs[m].owner.un,.int .i64 n.jobs[m].owner.ix,.str n.jobs[m].owner.tag,.str n.jobs[m].item.k,.str n.jobs[m].item.v,.int .i64 n.jobs[m].item.n,.bool n.jobs[m].item.g,.int .i64 n.jobs[m].acks,.int .i64 n.jobs[m].waits,.slice 1 (n.jobs[m].asked.map qaG),.str n.jobs[m].back.name,.int .u64 (n.jobs[m].back.id:Int),.int .i64 n.jobs[m].back.fr,.int .i64 n.jobs[m].back.un,.int .i64 n.jobs[m].back.ix,.str n.jobs[m].back.tag,.int .i64 n.jobs[m].backRid,.int .i64 n.jobs[m].backJob]=n.jobs.map Jb.cs:=qhd Jb.cs n.jobs m hm
   have ne:¬(m:Int)=g:=by omega
   have t1:qed n i m hi=n.jobs.map Jb.cs:=by unfold qed;rw [if_neg (by omega)]
   have t2:qed n i (m+1) hi=n.jobs.map Jb.cs:=by unfold qed;rw [if_neg (by omega)]
   rw [t1]at H5
   rw [if_neg (by omega)]at H9
   simp -implicitDefEqProofs -dsimp +contextual (maxSteps:=9999999) (disch:=first | omega | simp only [go_sem]<;>omega | refine ib ?_;kernel_rfl) only [go_sem,seval,↓reduceIte,f1,f2,f42,f43,H1,H5,hm,row,st,al,ne]
   exact ih _ _ (by exact ⟨f1,f2,f42,rfl,H1,H2,H2m,⟨r,hr,H2r⟩,H3,H4,by rw [t2];first | exact H5 | rfl,H6,H7,fun o ho=>by repeat (first | exact H8 o ho | rw [qac.set_ne _ _ (by omega)]),by rw [if_neg (by omega)];first | exact H9 | rfl⟩)
  ·have row:=qdg n.jobs m hm
   have t1:qed n m m hi=n.jobs.map Jb.cs:=by unfold qed;rw [if_neg (by omega)]
   have t2:qed n m (m+1) hi=qbd n.jobs m [.int .i64 n.jobs[m].id,.int .i64 n.jobs[m].kind,.int .i64 n.jobs[m].phase,.int .i64 n.jobs[m].hops,.int .i64 n.jobs[m].tries,.int .i64 n.jobs[m].til,.str n.jobs[m].key,.str n.jobs[m].val,.str n.jobs[m].owner.name,.int .u64 (n.jobs[m].owner.id:Int),.int .i64 n.jobs[m].owner.fr,.int .i64 n.jobs[m].owner.un,.int .i64 n.jobs[m].owner.ix,.str n.jobs[m].owner.tag,.str n.jobs[m].item.k,.str n.jobs[m].item.v,.int .i64 n.jobs[m].item.n,.bool n.jobs[m].item.g,.int .i64 n.jobs[m].acks,.int .i64 n.jobs[m].waits,.osl 60155 1 0 n.jobs[m].asked.length,.str n.jobs[m].back.name,.int .u64 (n.jobs[m].back.id:Int),.int .i64 n.jobs[m].back.fr,.int .i64 n.jobs[m].back.un,.int .i64 n.jobs[m].back.ix,.str n.jobs[m].back.tag,.int .i64 n.jobs[m].backRid,.int .i64 n.jobs[m].backJob]:=by unfold qed;rw [if_pos (by omega)]
   rw [t1]at H5
   rw [if_neg (by omega)]at H9
   have eq:((m:Int)=g)=True:=eq_true hg.symm
   simp -implicitDefEqProofs -dsimp +contextual (maxSteps:=9999999) (disch:=first | omega | simp only [go_sem]<;>omega | refine ib ?_;kernel_rfl) only [go_sem,seval,↓reduceIte,f1,f2,f42,f43,H1,H5,H9,hm,row,al,eq,qmE]
   exact ih _ _ (by exact ⟨f1,f2,f42,rfl,H1,H2,H2m,⟨r,hr,H2r⟩,H3,H4,by rw [t2];rfl,H6,H7,fun o ho=>by repeat (first | exact H8 o ho | rw [qac.set_ne _ _ (by omega)]),by rw [if_pos (by omega)];rfl⟩)
  ·have t1:qed n i m hi=qbd n.jobs i [.int .i64 n.jobs[i].id,.int .i64 n.jobs[i].kind,.int .i64 n.jobs[i].phase,.int .i64 n.jobs[i].hops,.int .i64 n.jobs[i].tries,.int .i64 n.jobs[i].til,.str n.jobs[i].key,.str n.jobs[i].val,.str n.jobs[i].owner.name,.int .u64 (n.jobs[i].owner.id:Int),.int .i64 n.jobs[i].owner.fr,.int .i64 n.jobs[i].owner.un,.int .i64 n.jobs[i].owner.ix,.str n.jobs[i].owner.tag,.str n.jobs[i].item.k,.str n.jobs[i].item.v,.int .i64 n.jobs[i].item.n,.bool n.jobs[i].item.g,.int .i64 n.jobs[i].acks,.int .i64 n.jobs[i].waits,.osl 60155 1 0 n.jobs[i].asked.length,.str n.jobs[i].back.name,.int .u64 (n.jobs[i].back.id:Int),.int .i64 n.jobs[i].back.fr,.int .i64 n.jobs[i].back.un,.int .i64 n.jobs[i].back.ix,.str n.jobs[i].back.tag,.int .i64 n.jobs[i].backRid,.int .i64 n.jobs[i].backJob]:=by unfold qed;rw [if_pos (by omega)]
   have t2:qed n i (m+1) hi=qbd n.jobs i [.int .i64 n.jobs[i].id,.int .i64 n.jobs[i].kind,.int .i64 n.jobs[i].phase,.int .i64 n.jobs[i].hops,.int .i64 n.jobs[i].tries,.int .i64 n.jobs[i].til,.str n.jobs[i].key,.str n.jobs[i].val,.str n.jobs[i].owner.name,.int .u64 (n.jobs[i].owner.id:Int),.int .i64 n.jobs[i].owner.fr,.int .i64 n.jobs[i].owner.un,.int .i64 n.jobs[i].owner.ix,.str n.jobs[i].owner.tag,.str n.jobs[i].item.k,.str n.jobs[i].item.v,.int .i64 n.jobs[i].item.n,.bool n.jobs[i].item.g,.int .i64 n.jobs[i].acks,.int .i64 n.jobs[i].waits,.osl 60155 1 0 n.jobs[i].asked.length,.str n.jobs[i].back.name,.int .u64 (n.jobs[i].back.id:Int),.int .i64 n.jobs[i].back.fr,.int .i64 n.jobs[i].back.un,.int .i64 n.jobs[i].back.ix,.str n.jobs[i].back.tag,.int .i64 n.jobs[i].backRid,.int .i64 n.jobs[i].backJob]:=by unfold qed;rw [if_pos (by omega)]
   have row:=qkz (i:=i) hm (by omega) [.int .i64 n.jobs[i].id,.int .i64 n.jobs[i].kind,.int .i64 n.jobs[i].phase,.int .i64 n.jobs[i].hops,.int .i64 n.jobs[i].tries,.int .i64 n.jobs[i].til,.str n.jobs[i].key,.str n.jobs[i].val,.str n.jobs[i].owner.name,.int .u64 (n.jobs[i].owner.id:Int),.int .i64 n.jobs[i].owner.fr,.int .i64 n.jobs[i].owner.un,.int .i64 n.jobs[i].owner.ix,.str n.jobs[i].owner.tag,.str n.jobs[i].item.k,.str n.jobs[i].item.v,.int .i64 n.jobs[i].item.n,.bool n.jobs[i].item.g,.int .i64 n.jobs[i].acks,.int .i64 n.jobs[i].waits,.osl 60155 1 0 n.jobs[i].asked.length,.str n.jobs[i].back.name,.int .u64 (n.jobs[i].back.id:Int),.int .i64 n.jobs[i].back.fr,.int .i64 n.jobs[i].back.un,.int .i64 n.jobs[i].back.ix,.str n.jobs[i].back.tag,.int .i64 n.jobs[i].backRid,.int .i64 n.jobs[i].backJob]
   have st:=qpM (i:=i) hm (by omega) [.int .i64 n.jobs[i].id,.int .i64 n.jobs[i].kind,.int .i64 n.jobs[i].phase,.int .i64 n.jobs[i].hops,.int .i64 n.jobs[i].tries,.int .i64 n.jobs[i].til,.str n.jobs[i].key,.str n.jobs[i].val,.str n.jobs[i].owner.name,.int .u64 (n.jobs[i].owner.id:Int),.int .i64 n.jobs[i].owner.fr,.int .i64 n.jobs[i].owner.un,.int .i64 n.jobs[i].owner.ix,.str n.jobs[i].owner.tag,.str n.jobs[i].item.k,.str n.jobs[i].item.v,.int .i64 n.jobs[i].item.n,.bool n.jobs[i].item.g,.int .i64 n.jobs[i].acks,.int .i64 n.jobs[i].waits,.osl 60155 1 0 n.jobs[i].asked.length,.str n.jobs[i].back.name,.int .u64 (n.jobs[i].back.id:Int),.int .i64 n.jobs[i].back.fr,.int .i64 n.jobs[i].back.un,.int .i64 n.jobs[i].back.ix,.str n.jobs[i].back.tag,.int .i64 n.jobs[i].backRid,.int .i64 n.jobs[i].backJob]
   rw [Jb.cs_eq]at row
   have ne:¬(m:Int)=g:=by omega
   rw [t1]at H5
   rw [if_pos (by omega)]at H9
   simp -implicitDefEqProofs -dsimp +contextual (maxSteps:=9999999) (disch:=first | omega | simp only [go_sem]<;>omega | refine ib ?_;kernel_rfl) only [go_sem,seval,↓reduceIte,f1,f2,f42,f43,H1,H5,hm,row,st,al,ne]
   exact ih _ _ (by exact ⟨f1,f2,f42,rfl,H1,H2,H2m,⟨r,hr,H2r⟩,H3,H4,by rw [t2];first | exact H5 | rfl,H6,H7,fun o ho=>by repeat (first | exact H8 o ho | rw [qac.set_ne _ _ (by omega)]),by rw [if_pos (by omega)];first | exact H9 | rfl⟩)
 ·rintro f H' ⟨f1,f2,f42,f43,H1,H2,H2m,⟨r,hr,H2r⟩,H3,H4,H5,H6,H7,H8,H9⟩
  have t1:qed n i n.jobs.length hi=qbd n.jobs i [.int .i64 n.jobs[i].id,.int .i64 n.jobs[i].kind,.int .i64 n.jobs[i].phase,.int .i64 n.jobs[i].hops,.int .i64 n.jobs[i].tries,.int .i64 n.jobs[i].til,.str n.jobs[i].key,.str n.jobs[i].val,.str n.jobs[i].owner.name,.int .u64 (n.jobs[i].owner.id:Int),.int .i64 n.jobs[i].owner.fr,.int .i64 n.jobs[i].owner.un,.int .i64 n.jobs[i].owner.ix,.str n.jobs[i].owner.tag,.str n.jobs[i].item.k,.str n.jobs[i].item.v,.int .i64 n.jobs[i].item.n,.bool n.jobs[i].item.g,.int .i64 n.jobs[i].acks,.int .i64 n.jobs[i].waits,.osl 60155 1 0 n.jobs[i].asked.length,.str n.jobs[i].back.name,.int .u64 (n.jobs[i].back.id:Int),.int .i64 n.jobs[i].back.fr,.int .i64 n.jobs[i].back.un,.int .i64 n.jobs[i].back.ix,.str n.jobs[i].back.tag,.int .i64 n.jobs[i].backRid,.int .i64 n.jobs[i].backJob]:=by unfold qed;rw [if_pos (by omega)]
  rw [t1]at H5
  rw [if_pos hi]at H9
  simp -implicitDefEqProofs -dsimp +contextual (maxSteps:=9999999) (disch:=first | omega | simp only [go_sem]<;>omega | refine ib ?_;kernel_rfl) only [go_sem,seval,↓reduceIte,f1,f2,f42,f43,H1,H2,H2m,H2r,hr,H3,H4,H5,H6,H7]
  exact k _ ⟨rfl,H3,H4,H5,H6⟩ (by repeat (first | exact H9 | rw [qac.set_ne _ _ (by omega)])) (fun o ho=>by repeat (first | exact H8 o ho | rw [qac.set_ne _ _ (by omega)]))
theorem qkA {C:Cf} {lo:Nat} {b:Code} {Q:Exit→Am.St→Option Res} {R:Option Res} (e:Exit) (P:(Nat→AVal)→qac→Prop) {f:Nat→AVal} {H:qac}
  (h1:∀Q':Exit→Am.St→Option Res,(∀f H,P f H→Q' e ⟨f,H⟩=R)→@qdN f H ⟨(C,lo,b,Q')⟩=R) (h2:∀f H,P f H→Q e ⟨f,H⟩=R):@qdN f H ⟨(C,lo,b,Q)⟩=R:=h1 Q h2
@[go_sem] theorem Jb.eta (j:Jb):(⟨j.id,j.kind,j.phase,j.hops,j.tries,j.til,j.key,j.val,j.owner,j.item,j.acks,j.waits,j.asked,j.back,j.backRid,j.backJob⟩:Jb)=j:=rfl
def qGm (H:qac) (A:AVal) (l:List (List UInt8)):Prop:=∃g,A= .osl 60155 g 0 l.length∧H 60155=⟨g,.live,1,l.map qaG,false⟩
def qtF (H:qac) (X:AVal) (l:List Ac):Prop:=(X= .sc (.slice none 0 0)∧l=[])∨(∃g,X= .osl 80189 g 0 l.length∧H 80189=⟨g,.live,20,l.map Ac.cs,false⟩)
structure MoreS (H:qac) (n:Nd) (i c:Nat) (j:Jb) (A X:AVal):Prop where
 w:H 40106=⟨1,.live,23,[[.str n.me.name,.int .u64 (n.me.id:Int),.int .i64 n.me.fr,.int .i64 n.me.un,.int .i64 n.me.ix,.str n.me.tag,.int .i64 n.clock,.str n.psk,.int .i64 n.gateI,.str n.gateK,.bool n.ready,.slice 8 (n.pred.map Pr.cs),.slice 8 (n.list.map Pr.cs),.slice 9 (n.fingers.map Fg.cs),.osl 60118 1 0 n.sessions.length,.osl 60121 1 0 n.pends.length,.slice 4 (n.items.map It.cs),.osl 60130 c 0 n.jobs.length,.int .i64 n.rid,.int .i64 n.jobId,.slice 1 (n.draws.map qaw),.osl 60136 1 0 n.results.length,X]],false⟩
 s:H 60118=⟨1,.live,20,n.sessions.map Se.cs,false⟩
 p:H 60121=⟨1,.live,23,n.pends.map Pd.cs,false⟩
 j:H 60130=⟨c,.live,29,qbd n.jobs i [.int .i64 j.id,.int .i64 j.kind,.int .i64 j.phase,.int .i64 j.hops,.int .i64 j.tries,.int .i64 j.til,.str j.key,.str j.val,.str j.owner.name,.int .u64 (j.owner.id:Int),.int .i64 j.owner.fr,.int .i64 j.owner.un,.int .i64 j.owner.ix,.str j.owner.tag,.str j.item.k,.str j.item.v,.int .i64 j.item.n,.bool j.item.g,.int .i64 j.acks,.int .i64 j.waits,A,.str j.back.name,.int .u64 (j.back.id:Int),.int .i64 j.back.fr,.int .i64 j.back.un,.int .i64 j.back.ix,.str j.back.tag,.int .i64 j.backRid,.int .i64 j.backJob],false⟩
 r:H 60136=⟨1,.live,8,n.results.map Rs.cs,false⟩
@[go_sem] theorem qJQ:M.nl 168=[(77,906),(76,0)]:=Eq.trans rfl rfl
theorem qco {α:Type} (l:List α) (i:Nat) (x:α):(l.set i x).eraseIdx i=l.eraseIdx i:=by
 rw [←qcg,←qcg,List.take_set,List.drop_set_of_lt (by omega),List.set_eq_of_length_le (by simp;omega)]
def qnC (id:Int) (l:List Pr) (j:Jb) (acts:List Ac) (q:Jb×List Ac):Prop:=(qdv id l j).1=q.1∧acts++(qdv id l j).2=q.2
theorem qnC.full {id:Int} {l l':List Pr} {j:Jb} {acts:List Ac} {q:Jb×List Ac} (h:qnC id l j acts q) (hf:2≤qcM j.acks+qcM j.waits):q=(j,acts):=by
 obtain ⟨h1,h2⟩:=h
 rw [qgY id hf]at h1 h2
 rw [List.append_nil]at h2
 exact Prod.ext h1.symm h2.symm
theorem qnC.done {id:Int} {j:Jb} {acts:List Ac} {q:Jb×List Ac} (h:qnC id [] j acts q):q=(j,acts):=by
 obtain ⟨h1,h2⟩:=h
 rw [qdv]at h1 h2
 rw [List.append_nil]at h2
 exact Prod.ext h1.symm h2.symm
theorem qnC.skip {id:Int} {p:Pr} {l:List Pr} {j:Jb} {acts:List Ac} {q:Jb×List Ac} (h:qnC id (p::l) j acts q) (hf:¬2≤qcM j.acks+qcM j.waits) (hn:p.e.name∈j.asked):qnC id l j acts q:=by
 unfold qnC at h ⊢;rwa [qkw id p l hf hn]at h
theorem qnC.go {id:Int} {p:Pr} {l:List Pr} {j:Jb} {acts:List Ac} {q:Jb×List Ac} (h:qnC id (p::l) j acts q) (hf:¬2≤qcM j.acks+qcM j.waits) (hn:¬p.e.name∈j.asked) :
  qnC id l { j with waits:=qcM j.waits+1,asked:=j.asked++[p.e.name] } (acts++[qhc p.e j.item id]) q:=by
 unfold qnC at h ⊢
 rw [qsP id p l hf hn]at h
 exact ⟨h.1,by rw [←List.append_cons];exact h.2⟩
theorem qwX (g:Int) (n:Nd) (id:Int) (i c:Nat) (j0:Jb) (A0:AVal) (hi:i<n.jobs.length) (hcop:qeo (n.jobs.set i j0) id=(i:Int)) (h:n.mid 100000) (hal:j0.asked.length≤100000) (H:qac) (hM:MoreS H n i c j0 A0 (.sc (.slice none 0 0))) (hA:qGm H A0 j0.asked)
  (K:AVal×qac→Option Res) (R:Option Res) (q:Jb×List Ac) (hq:qdv id n.list j0=q)
  (ka:∀H' A X,MoreS H' n i c q.1 A X→qGm H' A q.1.asked→qtF H' X q.2→(∀o,o<40000→H' o=H o)→0<q.1.waits→K (.tup [],H')=R)
  (kb:∀H',qnv 40106 (qaN n i q).1 (qaN n i q).2 H'→(∀o,o<40000→H' o=H o)→¬0<q.1.waits→K (.tup [],H')=R) :
  @kB _ _ (il (C1 g) 168 [.ptr 40106 1 0 0,.int .i64 id] H) ⟨K⟩=R:=by
 obtain ⟨W1,W2,W3,W4,W5⟩:=hM
 have jl:=h.jl
 have ll:=h.ll
 have pl:=qxV { n with jobs:=n.jobs.set i j0 } (.sc (.slice none 0 0)) id (by simp;omega)
 simp only [hcop]at pl
 have row:=qcA (R:=[.int .i64 j0.id,.int .i64 j0.kind,.int .i64 j0.phase,.int .i64 j0.hops,.int .i64 j0.tries,.int .i64 j0.til,.str j0.key,.str j0.val,.str j0.owner.name,.int .u64 (j0.owner.id:Int),.int .i64 j0.owner.fr,.int .i64 j0.owner.un,.int .i64 j0.owner.ix,.str j0.owner.tag,.str j0.item.k,.str j0.item.v,.int .i64 j0.item.n,.bool j0.item.g,.int .i64 j0.acks,.int .i64 j0.waits,A0,.str j0.back.name,.int .u64 (j0.back.id:Int),.int .i64 j0.back.fr,.int .i64 j0.back.un,.int .i64 j0.back.ix,.str j0.back.tag,.int .i64 j0.backRid,.int .i64 j0.backJob]) hi
 obtain ⟨ga,rfl,ha⟩:=hA
 rw [qaD (C:=C1 g) Tryz.func168 rfl Tryz.results168 (show (C1 g).M.loc 168=_ from qwC.1) (by kernel_rfl)]
 simp -implicitDefEqProofs -dsimp +contextual (maxSteps:=9999999) (disch:=first | omega | simp only [go_sem]<;>omega | refine ib ?_;kernel_rfl) only [go_sem,seval,↓reduceIte,W1,W2,W3,W4,W5,ha,pl,qbH,hi,row,Nat.not_lt_zero]
 clear pl row
 refine qkA (.exit 0) (fun f H'=>f 0= .ptr 40106 1 0 0∧f 1= .int .i64 id∧f 4= .int .i64 (i:Nat)∧f 5= .ptr 60130 c i 0∧q.1.asked.length≤200000∧q.2.length≤100000∧(∀o,o<40000→H' o=H o)∧∃A X,MoreS H' n i c q.1 A X∧qGm H' A q.1.asked∧qtF H' X q.2) ?_ ?_
 ·intro Q hQ
  refine qaj (fun (a:Nat×Jb×List Ac) f H'=>a.1≤n.list.length∧qnC id (n.list.drop a.1) a.2.1 a.2.2 q∧a.2.1.asked.length≤100000+a.1∧a.2.2.length≤a.1∧f 0= .ptr 40106 1 0 0∧f 1= .int .i64 id∧f 4= .int .i64 (i:Nat)∧f 5= .ptr 60130 c i 0∧f 25= .slice 8 (n.list.map Pr.cs)∧f 26= .int .i64 (n.list.length:Nat)∧f 27= .int .i64 (a.1:Nat)∧
   (∀o,o<40000→H' o=H o)∧∃A X,MoreS H' n i c a.2.1 A X∧qGm H' A a.2.1.asked∧qtF H' X a.2.2) (fun a=>n.list.length - a.1) (fun _=>R) ?_ (0,j0,[]) _ _ (by exact ⟨Nat.zero_le _,⟨by rw [List.drop_zero,hq],by rw [List.drop_zero,hq];rfl⟩,hal,Nat.le_refl _,rfl,rfl,rfl,rfl,rfl,rfl,rfl,fun o ho=>rfl,_,_,⟨W1,W2,W3,W4,W5⟩,⟨ga,rfl,ha⟩,.inl ⟨rfl,rfl⟩⟩)
  clear ha W1 W2 W3 W4 W5
  rintro ⟨k,j,acts⟩ f H' ⟨hk,hI,hal2,hac,f0,f1,f4,f5,f25,f26,f27,hfr,A,X,⟨W1,W2,W3,W4,W5⟩,⟨ga,rfl,ha⟩,hX⟩ ih
  try simp only at hk hI hal2 hac f27 W1 W4 ha hX ih
  have row:=fun R=>qcA (R:=R) hi
  by_cases hl:k<n.list.length
  ·have prow:=qda n.list k hl
   rw [List.drop_eq_getElem_cons hl]at hI
   have b1:=qfN j.acks
   have b2:=qfN j.waits
   by_cases hfu:2≤qcM j.acks+qcM j.waits
   ·obtain rfl:=hI.full (l':=[]) hfu
    clear ih
    simp -implicitDefEqProofs -dsimp +contextual (maxSteps:=9999999) (disch:=first | omega | simp only [go_sem]<;>omega | refine ib ?_;kernel_rfl) only [go_sem,seval,↓reduceIte,f0,f1,f4,f5,f25,f26,f27,hl,prow,W1,W2,W3,W4,W5,ha,row,hfu]
    exact hQ _ _ ⟨f0,f1,f4,f5,by simp only;omega,by simp only;omega,fun o ho=>by repeat (first | exact hfr o ho | rw [qac.set_ne _ _ (by omega)]),_,_,⟨W1,W2,W3,W4,W5⟩,⟨ga,rfl,ha⟩,hX⟩
   ·by_cases hm:n.list[k].e.name∈j.asked
    ·have hI':=hI.skip hfu hm
     have nm:=qFb j.asked n.list[k].e.name (by omega)
     rw [decide_eq_true hm]at nm
     have ih':=ih (k+1,j,acts)
     try simp only at ih'
     clear ih
     simp -implicitDefEqProofs -dsimp +contextual (maxSteps:=9999999) (disch:=first | omega | simp only [go_sem]<;>omega | refine ib ?_;kernel_rfl) only [go_sem,seval,↓reduceIte,f0,f1,f4,f5,f25,f26,f27,hl,prow,W1,W2,W3,W4,W5,ha,row,hfu,nm]
     refine ih' _ _ ?_ (by omega)
     exact ⟨hl,hI',by omega,by omega,f0,f1,f4,f5,f25,f26,rfl,fun o ho=>by repeat (first | exact hfr o ho | rw [qac.set_ne _ _ (by omega)]),_,_,⟨W1,W2,W3,W4,W5⟩,⟨ga,rfl,ha⟩,hX⟩
    ·have hI':=hI.go hfu hm
     have nm:=qFb j.asked n.list[k].e.name (by omega)
     rw [decide_eq_false hm]at nm
     have ih':=ih (k+1,{ j with waits:=qcM j.waits+1,asked:=j.asked++[n.list[k].e.name] },acts++[qhc n.list[k].e j.item id])
     try simp only at ih'
     clear ih
     rcases hX with ⟨rfl,rfl⟩|⟨gx,rfl,hX⟩
     ·simp -implicitDefEqProofs -dsimp +contextual (maxSteps:=9999999) (disch:=first | omega | simp only [go_sem]<;>omega | refine ib ?_;kernel_rfl) only [go_sem,seval,↓reduceIte,f0,f1,f4,f5,f25,f26,f27,hl,prow,W1,W2,W3,W4,W5,ha,row,hfu,nm,hal2]
      refine ih' _ _ ?_ (by omega)
      refine ⟨hl,hI',by simp;omega,by simp,f0,f1,f4,f5,f25,f26,rfl,fun o ho=>by repeat (first | exact hfr o ho | rw [qac.set_ne _ _ (by omega)]),_,_,⟨rfl,W2,W3,rfl,W5⟩,⟨ga+1,by simp,by rw [List.map_append];rfl⟩,.inr ⟨(H' 80189).gen+1,rfl,rfl⟩⟩
     ·simp -implicitDefEqProofs -dsimp +contextual (maxSteps:=9999999) (disch:=first | omega | simp only [go_sem]<;>omega | refine ib ?_;kernel_rfl) only [go_sem,seval,↓reduceIte,f0,f1,f4,f5,f25,f26,f27,hl,prow,W1,W2,W3,W4,W5,ha,hX,row,hfu,nm,hal2]
      refine ih' _ _ ?_ (by omega)
      refine ⟨hl,hI',by simp;omega,by simp;omega,f0,f1,f4,f5,f25,f26,rfl,fun o ho=>by repeat (first | exact hfr o ho | rw [qac.set_ne _ _ (by omega)]),_,_,⟨rfl,W2,W3,rfl,W5⟩,⟨ga+1,by simp,by rw [List.map_append];rfl⟩,.inr ⟨gx+1,by simp,by rw [List.map_append];rfl⟩⟩
  ·obtain rfl:k=n.list.length:=by omega
   rw [List.drop_length]at hI
   obtain rfl:=hI.done
   clear ih
   simp -implicitDefEqProofs -dsimp +contextual (maxSteps:=9999999) (disch:=first | omega | simp only [go_sem]<;>omega | refine ib ?_;kernel_rfl) only [go_sem,seval,↓reduceIte,f0,f1,f4,f5,f25,f26,f27,W1,W2,W3,W4,W5,ha,row]
   exact hQ _ _ ⟨f0,f1,f4,f5,by simp only;omega,by simp only;omega,hfr,_,_,⟨W1,W2,W3,W4,W5⟩,⟨ga,rfl,ha⟩,hX⟩
 ·obtain ⟨j,acts⟩:=q
  rintro f H' ⟨f0,f1,f4,f5,hjl,hql,hfr,A,X,⟨W1,W2,W3,W4,W5⟩,⟨ga,rfl,ha⟩,hX⟩
  try simp only at W4 ha hX ka kb hjl hql
  have row:=fun R=>qcA (R:=R) hi
  by_cases hw:0<j.waits
  ·have hw':¬j.waits≤0:=by omega
   simp -implicitDefEqProofs -dsimp +contextual (maxSteps:=9999999) (disch:=first | omega | simp only [go_sem]<;>omega | refine ib ?_;kernel_rfl) only [go_sem,seval,↓reduceIte,f0,f1,f4,f5,W1,W2,W3,W4,W5,ha,row,hw']
   exact ka H' _ _ ⟨W1,W2,W3,W4,W5⟩ ⟨ga,rfl,ha⟩ hX hfr hw
  ·have hw':j.waits≤0:=by omega
   have hmf:qaN n i (j,acts)=((qb6 { n with jobs:=n.jobs.eraseIdx i } j.back j.backRid j.backJob j.item (!j.item.g) 0).1,acts++(qb6 { n with jobs:=n.jobs.eraseIdx i } j.back j.backRid j.backJob j.item (!j.item.g) 0).2):=by unfold qaN;rw [if_neg hw]
   rw [hmf]at kb
   clear hmf ka
   have hm':=qdQ i h
   have hms:({ n with jobs:=n.jobs.set i j }:Nd).mid 1000001:=qmD i j (h.le (by omega)) (by omega)
   by_cases hj:j.backJob=0
   ·rw [qb6,if_pos hj]at kb
    rcases hX with ⟨rfl,rfl⟩|⟨gx,rfl,hX⟩
    ·have drp:=qi1 { n with jobs:=n.jobs.set i j } _ _ .nil i (by simpa using hi) hms
     simp only [List.getElem_set_self,qco]at drp
     have en:=qsN { n with jobs:=n.jobs.eraseIdx i } _ _ .nil j hj (hm'.le (by omega)) (by simp)
     try simp only at en
     simp -implicitDefEqProofs -dsimp +contextual (maxSteps:=9999999) (disch:=first | omega | simp only [go_sem]<;>omega | refine ib ?_;kernel_rfl) only [go_sem,seval,↓reduceIte,f0,f1,f4,f5,W1,W2,W3,W4,W5,ha,row,hw',qbH,hi,drp,en]
     exact kb _ ⟨_,_,_,_,_,_,rfl,rfl,rfl,rfl,rfl,.inr ⟨rfl,rfl⟩⟩ (fun o ho=>by repeat (first | exact hfr o ho | rw [qac.set_ne _ _ (by omega)])) hw
    ·have drp:=qi1 { n with jobs:=n.jobs.set i j } _ _ (.us acts) i (by simpa using hi) hms
     simp only [List.getElem_set_self,qco]at drp
     have en:=qsN { n with jobs:=n.jobs.eraseIdx i } _ _ (.us acts) j hj (hm'.le (by omega)) (by omega)
     try simp only at en
     simp -implicitDefEqProofs -dsimp +contextual (maxSteps:=9999999) (disch:=first | omega | simp only [go_sem]<;>omega | refine ib ?_;kernel_rfl) only [go_sem,seval,↓reduceIte,f0,f1,f4,f5,W1,W2,W3,W4,W5,ha,row,hw',qbH,hi,drp,en,hX]
     exact kb _ ⟨_,_,_,_,_,_,rfl,rfl,rfl,rfl,rfl,.inr ⟨by simp,rfl⟩⟩ (fun o ho=>by repeat (first | exact hfr o ho | rw [qac.set_ne _ _ (by omega)])) hw
   ·rw [qb6,if_neg hj]at kb
    obtain ⟨js,rs,hs⟩:=qdh { n with jobs:=n.jobs.eraseIdx i } j.backJob j.item (!j.item.g) 0
    rcases hX with ⟨rfl,rfl⟩|⟨gx,rfl,hX⟩
    ·have drp:=qi1 { n with jobs:=n.jobs.set i j } _ _ .nil i (by simpa using hi) hms
     simp only [List.getElem_set_self,qco]at drp
     have en:=qsO { n with jobs:=n.jobs.eraseIdx i } _ _ .nil j hj (hm'.le (by omega))
     try simp only at en
     rw [hs]at en kb
     try simp only at en kb
     simp -implicitDefEqProofs -dsimp +contextual (maxSteps:=9999999) (disch:=first | omega | simp only [go_sem]<;>omega | refine ib ?_;kernel_rfl) only [go_sem,seval,↓reduceIte,f0,f1,f4,f5,W1,W2,W3,W4,W5,ha,row,hw',qbH,hi,drp,en]
     exact kb _ ⟨0,_,_,_,_,_,rfl,rfl,rfl,rfl,rfl,.inl ⟨rfl,rfl⟩⟩ (fun o ho=>by repeat (first | exact hfr o ho | rw [qac.set_ne _ _ (by omega)])) hw
    ·have drp:=qi1 { n with jobs:=n.jobs.set i j } _ _ (.us acts) i (by simpa using hi) hms
     simp only [List.getElem_set_self,qco]at drp
     have en:=qsO { n with jobs:=n.jobs.eraseIdx i } _ _ (.us acts) j hj (hm'.le (by omega))
     try simp only at en
     rw [hs]at en kb
     try simp only at en kb
     rw [List.append_nil]at kb
     simp -implicitDefEqProofs -dsimp +contextual (maxSteps:=9999999) (disch:=first | omega | simp only [go_sem]<;>omega | refine ib ?_;kernel_rfl) only [go_sem,seval,↓reduceIte,f0,f1,f4,f5,W1,W2,W3,W4,W5,ha,row,hw',qbH,hi,drp,en,hX]
     exact kb _ ⟨_,_,_,_,_,_,rfl,rfl,rfl,rfl,rfl,.inr ⟨rfl,rfl⟩⟩ (fun o ho=>by repeat (first | exact hfr o ho | rw [qac.set_ne _ _ (by omega)])) hw
theorem qFg (j:Jb) (ha:j.asked=[]) (id:Int):fn C 211 [] [.agg [.int .i64 j.id,.int .i64 j.kind,.int .i64 j.phase,.int .i64 j.hops,.int .i64 j.tries,.int .i64 j.til,.str j.key,.str j.val,.str j.owner.name,.int .u64 (j.owner.id:Int),.int .i64 j.owner.fr,.int .i64 j.owner.un,.int .i64 j.owner.ix,.str j.owner.tag,.str j.item.k,.str j.item.v,.int .i64 j.item.n,.bool j.item.g,.int .i64 j.acks,.int .i64 j.waits,.slice 1 [],.str j.back.name,.int .u64 (j.back.id:Int),.int .i64 j.back.fr,.int .i64 j.back.un,.int .i64 j.back.ix,.str j.back.tag,.int .i64 j.backRid,.int .i64 j.backJob],.iptr [.int .i64 id]]=some (.bool (decide (j.id=id)),[]):=by
 have:=qMU j id
 rw [ha]at this
 exact this
theorem qsR (l:List Jb) (i:Nat) (hi:i<l.length) (ha:l[i].asked=[]) (id:Int) (hl:l.length≤9223372036854775807):fn C 84 [] [.slice 29 (qbd l i [.int .i64 l[i].id,.int .i64 l[i].kind,.int .i64 l[i].phase,.int .i64 l[i].hops,.int .i64 l[i].tries,.int .i64 l[i].til,.str l[i].key,.str l[i].val,.str l[i].owner.name,.int .u64 (l[i].owner.id:Int),.int .i64 l[i].owner.fr,.int .i64 l[i].owner.un,.int .i64 l[i].owner.ix,.str l[i].owner.tag,.str l[i].item.k,.str l[i].item.v,.int .i64 l[i].item.n,.bool l[i].item.g,.int .i64 l[i].acks,.int .i64 l[i].waits,.sc (.slice none 0 0),.str l[i].back.name,.int .u64 (l[i].back.id:Int),.int .i64 l[i].back.fr,.int .i64 l[i].back.un,.int .i64 l[i].back.ix,.str l[i].back.tag,.int .i64 l[i].backRid,.int .i64 l[i].backJob]),.fn (.func 211) [] [.iptr [.int .i64 id]]]=some (.int .i64 (qbW l id),[]):=by
 rw [qaa Tryz.func84 rfl rfl Tryz.results84 qHw.1 rfl rfl (by kernel_rfl)]
 simp -implicitDefEqProofs -dsimp +contextual (maxSteps:=9999999) (disch:=first | omega | simp only [go_sem]<;>omega | refine ib ?_;kernel_rfl) only [go_sem,seval,↓reduceIte]
 refine qeb l.length (fun k f H=>f 0= .slice 29 (qbd l i [.int .i64 l[i].id,.int .i64 l[i].kind,.int .i64 l[i].phase,.int .i64 l[i].hops,.int .i64 l[i].tries,.int .i64 l[i].til,.str l[i].key,.str l[i].val,.str l[i].owner.name,.int .u64 (l[i].owner.id:Int),.int .i64 l[i].owner.fr,.int .i64 l[i].owner.un,.int .i64 l[i].owner.ix,.str l[i].owner.tag,.str l[i].item.k,.str l[i].item.v,.int .i64 l[i].item.n,.bool l[i].item.g,.int .i64 l[i].acks,.int .i64 l[i].waits,.sc (.slice none 0 0),.str l[i].back.name,.int .u64 (l[i].back.id:Int),.int .i64 l[i].back.fr,.int .i64 l[i].back.un,.int .i64 l[i].back.ix,.str l[i].back.tag,.int .i64 l[i].backRid,.int .i64 l[i].backJob])∧f 1= .fn (.func 211) [] [.iptr [.int .i64 id]]∧f 7= .int .i64 l.length∧f 8= .int .i64 (k:Nat)∧H=qac.nil∧(l.take k).any (qdW id)=false) ?_ ?_ (by exact ⟨rfl,rfl,rfl,rfl,rfl,rfl⟩)
 ·rintro k f _ hk ⟨f0,f1,f7,f8,rfl,hb⟩ ih
  by_cases he:k=i
  ·subst he
   have row:=qcA hk [.int .i64 l[k].id,.int .i64 l[k].kind,.int .i64 l[k].phase,.int .i64 l[k].hops,.int .i64 l[k].tries,.int .i64 l[k].til,.str l[k].key,.str l[k].val,.str l[k].owner.name,.int .u64 (l[k].owner.id:Int),.int .i64 l[k].owner.fr,.int .i64 l[k].owner.un,.int .i64 l[k].owner.ix,.str l[k].owner.tag,.str l[k].item.k,.str l[k].item.v,.int .i64 l[k].item.n,.bool l[k].item.g,.int .i64 l[k].acks,.int .i64 l[k].waits,.sc (.slice none 0 0),.str l[k].back.name,.int .u64 (l[k].back.id:Int),.int .i64 l[k].back.fr,.int .i64 l[k].back.un,.int .i64 l[k].back.ix,.str l[k].back.tag,.int .i64 l[k].backRid,.int .i64 l[k].backJob]
   have f1n:=qFg l[k] ha id
   simp -implicitDefEqProofs -dsimp +contextual (maxSteps:=9999999) (disch:=first | omega | simp only [go_sem]<;>omega | refine ib ?_;kernel_rfl) only [go_sem,seval,↓reduceIte,f0,f1,f7,f8,hk,row,f1n]
   (repeat' (refine qae (fun _=>?_) (fun _=>?_)))
   ·rename_i h;rw [qbW,qcp hk hb (by simp [qdW,h])]
   ·rename_i h;exact ih _ _ ⟨f0,f1,f7,rfl,rfl,qa5 hk hb (by simp [qdW,h])⟩
  ·have row:=qkz hk he [.int .i64 l[i].id,.int .i64 l[i].kind,.int .i64 l[i].phase,.int .i64 l[i].hops,.int .i64 l[i].tries,.int .i64 l[i].til,.str l[i].key,.str l[i].val,.str l[i].owner.name,.int .u64 (l[i].owner.id:Int),.int .i64 l[i].owner.fr,.int .i64 l[i].owner.un,.int .i64 l[i].owner.ix,.str l[i].owner.tag,.str l[i].item.k,.str l[i].item.v,.int .i64 l[i].item.n,.bool l[i].item.g,.int .i64 l[i].acks,.int .i64 l[i].waits,.sc (.slice none 0 0),.str l[i].back.name,.int .u64 (l[i].back.id:Int),.int .i64 l[i].back.fr,.int .i64 l[i].back.un,.int .i64 l[i].back.ix,.str l[i].back.tag,.int .i64 l[i].backRid,.int .i64 l[i].backJob]
   rw [Jb.cs_eq]at row
   simp -implicitDefEqProofs -dsimp +contextual (maxSteps:=9999999) (disch:=first | omega | simp only [go_sem]<;>omega | refine ib ?_;kernel_rfl) only [go_sem,seval,↓reduceIte,f0,f1,f7,f8,hk,row]
   (repeat' (refine qae (fun _=>?_) (fun _=>?_)))
   ·rename_i h;rw [qbW,qcp hk hb (by simp [qdW,h])]
   ·rename_i h;exact ih _ _ ⟨f0,f1,f7,rfl,rfl,qa5 hk hb (by simp [qdW,h])⟩
 ·rintro f _ ⟨f0,f1,f7,f8,rfl,hb⟩
  simp -implicitDefEqProofs -dsimp +contextual (maxSteps:=9999999) (disch:=first | omega | simp only [go_sem]<;>omega | refine ib ?_;kernel_rfl) only [go_sem,seval,↓reduceIte,f0,f1,f7,f8]
  rw [qbW,qbP (qby hb)]
theorem qFh (l:List Jb) (i:Nat) (hi:i<l.length) (ha:l[i].asked=[]) (id:Int) (hl:l.length≤9223372036854775807):fn C 150 [] [.slice 29 (qbd l i [.int .i64 l[i].id,.int .i64 l[i].kind,.int .i64 l[i].phase,.int .i64 l[i].hops,.int .i64 l[i].tries,.int .i64 l[i].til,.str l[i].key,.str l[i].val,.str l[i].owner.name,.int .u64 (l[i].owner.id:Int),.int .i64 l[i].owner.fr,.int .i64 l[i].owner.un,.int .i64 l[i].owner.ix,.str l[i].owner.tag,.str l[i].item.k,.str l[i].item.v,.int .i64 l[i].item.n,.bool l[i].item.g,.int .i64 l[i].acks,.int .i64 l[i].waits,.sc (.slice none 0 0),.str l[i].back.name,.int .u64 (l[i].back.id:Int),.int .i64 l[i].back.fr,.int .i64 l[i].back.un,.int .i64 l[i].back.ix,.str l[i].back.tag,.int .i64 l[i].backRid,.int .i64 l[i].backJob]),.int .i64 id]=some (.int .i64 (qbW l id),[]):=by
 have e:=qsR l i hi ha id hl
 rw [qaa Tryz.func150 rfl rfl Tryz.results150 qAK.1 rfl rfl (by kernel_rfl)]
 simp -implicitDefEqProofs -dsimp +contextual (maxSteps:=9999999) (disch:=first | omega | simp only [go_sem]<;>omega | refine ib ?_;kernel_rfl) only [go_sem,seval,↓reduceIte,e]
theorem qFi (n:Nd) (A:AVal) (i:Nat) (hi:i<n.jobs.length) (ha:n.jobs[i].asked=[]) (id:Int) (hc:qeo n.jobs id=(i:Int)) (h:n.jobs.length≤1000000):fn C 224 [] [.iptr [.str n.me.name,.int .u64 (n.me.id:Int),.int .i64 n.me.fr,.int .i64 n.me.un,.int .i64 n.me.ix,.str n.me.tag,.int .i64 n.clock,.str n.psk,.int .i64 n.gateI,.str n.gateK,.bool n.ready,.slice 8 (n.pred.map Pr.cs),.slice 8 (n.list.map Pr.cs),.slice 9 (n.fingers.map Fg.cs),.slice 20 (n.sessions.map Se.cs),.slice 23 (n.pends.map Pd.cs),.slice 4 (n.items.map It.cs),.slice 29 (qbd n.jobs i [.int .i64 n.jobs[i].id,.int .i64 n.jobs[i].kind,.int .i64 n.jobs[i].phase,.int .i64 n.jobs[i].hops,.int .i64 n.jobs[i].tries,.int .i64 n.jobs[i].til,.str n.jobs[i].key,.str n.jobs[i].val,.str n.jobs[i].owner.name,.int .u64 (n.jobs[i].owner.id:Int),.int .i64 n.jobs[i].owner.fr,.int .i64 n.jobs[i].owner.un,.int .i64 n.jobs[i].owner.ix,.str n.jobs[i].owner.tag,.str n.jobs[i].item.k,.str n.jobs[i].item.v,.int .i64 n.jobs[i].item.n,.bool n.jobs[i].item.g,.int .i64 n.jobs[i].acks,.int .i64 n.jobs[i].waits,.sc (.slice none 0 0),.str n.jobs[i].back.name,.int .u64 (n.jobs[i].back.id:Int),.int .i64 n.jobs[i].back.fr,.int .i64 n.jobs[i].back.un,.int .i64 n.jobs[i].back.ix,.str n.jobs[i].back.tag,.int .i64 n.jobs[i].backRid,.int .i64 n.jobs[i].backJob]),.int .i64 n.rid,.int .i64 n.jobId,.slice 1 (n.draws.map qaw),.slice 8 (n.results.map Rs.cs),A],.int .i64 id]=some (.int .i64 (i:Nat),[]):=by
 have hf:qbW n.jobs id=(i:Int):=by
  unfold qeo at hc;split at hc
  ·exact hc
  ·omega
 have hk:n.jobs[i].kind=4:=by
  unfold qeo at hc;split at hc
  ·rename_i hk;rw [hf,Int.toNat_natCast,qdu hi]at hk;exact hk.2
  ·omega
 have row:=qcA hi [.int .i64 n.jobs[i].id,.int .i64 n.jobs[i].kind,.int .i64 n.jobs[i].phase,.int .i64 n.jobs[i].hops,.int .i64 n.jobs[i].tries,.int .i64 n.jobs[i].til,.str n.jobs[i].key,.str n.jobs[i].val,.str n.jobs[i].owner.name,.int .u64 (n.jobs[i].owner.id:Int),.int .i64 n.jobs[i].owner.fr,.int .i64 n.jobs[i].owner.un,.int .i64 n.jobs[i].owner.ix,.str n.jobs[i].owner.tag,.str n.jobs[i].item.k,.str n.jobs[i].item.v,.int .i64 n.jobs[i].item.n,.bool n.jobs[i].item.g,.int .i64 n.jobs[i].acks,.int .i64 n.jobs[i].waits,.sc (.slice none 0 0),.str n.jobs[i].back.name,.int .u64 (n.jobs[i].back.id:Int),.int .i64 n.jobs[i].back.fr,.int .i64 n.jobs[i].back.un,.int .i64 n.jobs[i].back.ix,.str n.jobs[i].back.tag,.int .i64 n.jobs[i].backRid,.int .i64 n.jobs[i].backJob]
 have e:=qFh n.jobs i hi ha id (by omega)
 rw [hf]at e
 generalize qbd n.jobs i [.int .i64 n.jobs[i].id,.int .i64 n.jobs[i].kind,.int .i64 n.jobs[i].phase,.int .i64 n.jobs[i].hops,.int .i64 n.jobs[i].tries,.int .i64 n.jobs[i].til,.str n.jobs[i].key,.str n.jobs[i].val,.str n.jobs[i].owner.name,.int .u64 (n.jobs[i].owner.id:Int),.int .i64 n.jobs[i].owner.fr,.int .i64 n.jobs[i].owner.un,.int .i64 n.jobs[i].owner.ix,.str n.jobs[i].owner.tag,.str n.jobs[i].item.k,.str n.jobs[i].item.v,.int .i64 n.jobs[i].item.n,.bool n.jobs[i].item.g,.int .i64 n.jobs[i].acks,.int .i64 n.jobs[i].waits,.sc (.slice none 0 0),.str n.jobs[i].back.name,.int .u64 (n.jobs[i].back.id:Int),.int .i64 n.jobs[i].back.fr,.int .i64 n.jobs[i].back.un,.int .i64 n.jobs[i].back.ix,.str n.jobs[i].back.tag,.int .i64 n.jobs[i].backRid,.int .i64 n.jobs[i].backJob]=RR at *
 rw [qaa Tryz.func224 rfl rfl Tryz.results224 qsC.1 rfl rfl (by kernel_rfl)]
 simp -implicitDefEqProofs -dsimp +contextual (maxSteps:=9999999) (disch:=first | omega | simp only [go_sem]<;>omega | refine ib ?_;kernel_rfl) only [go_sem,seval,↓reduceIte,e,row,hk,Nat.not_lt_zero]
theorem qpN {α:Type} (l:List α) (i:Nat) (x:α):(l.set i x).eraseIdx i=l.eraseIdx i:=by
 rw [←qcg,←qcg,List.take_set,List.drop_set_of_lt (by omega),List.set_eq_of_length_le (by simp;omega)]
theorem qHQ (n:Nd) (i:Nat) (hi:i<n.jobs.length) (ha:n.jobs[i].asked=[]) (h:n.mid 1000001):fn C 213 [] [.uptr [.str n.me.name,.int .u64 (n.me.id:Int),.int .i64 n.me.fr,.int .i64 n.me.un,.int .i64 n.me.ix,.str n.me.tag,.int .i64 n.clock,.str n.psk,.int .i64 n.gateI,.str n.gateK,.bool n.ready,.slice 8 (n.pred.map Pr.cs),.slice 8 (n.list.map Pr.cs),.slice 9 (n.fingers.map Fg.cs),.usl 20 (n.sessions.map Se.cs),.usl 23 (n.pends.map Pd.cs),.slice 4 (n.items.map It.cs),.usl 29 (qbd n.jobs i [.int .i64 n.jobs[i].id,.int .i64 n.jobs[i].kind,.int .i64 n.jobs[i].phase,.int .i64 n.jobs[i].hops,.int .i64 n.jobs[i].tries,.int .i64 n.jobs[i].til,.str n.jobs[i].key,.str n.jobs[i].val,.str n.jobs[i].owner.name,.int .u64 (n.jobs[i].owner.id:Int),.int .i64 n.jobs[i].owner.fr,.int .i64 n.jobs[i].owner.un,.int .i64 n.jobs[i].owner.ix,.str n.jobs[i].owner.tag,.str n.jobs[i].item.k,.str n.jobs[i].item.v,.int .i64 n.jobs[i].item.n,.bool n.jobs[i].item.g,.int .i64 n.jobs[i].acks,.int .i64 n.jobs[i].waits,.sc (.slice none 0 0),.str n.jobs[i].back.name,.int .u64 (n.jobs[i].back.id:Int),.int .i64 n.jobs[i].back.fr,.int .i64 n.jobs[i].back.un,.int .i64 n.jobs[i].back.ix,.str n.jobs[i].back.tag,.int .i64 n.jobs[i].backRid,.int .i64 n.jobs[i].backJob]),.int .i64 n.rid,.int .i64 n.jobId,.slice 1 (n.draws.map qaw),.usl 8 (n.results.map Rs.cs),.sc (.slice none 0 0)],.int .i64 (i:Nat)]=some (.agg [.int .i64 n.jobs[i].id,.int .i64 n.jobs[i].kind,.int .i64 n.jobs[i].phase,.int .i64 n.jobs[i].hops,.int .i64 n.jobs[i].tries,.int .i64 n.jobs[i].til,.str n.jobs[i].key,.str n.jobs[i].val,.str n.jobs[i].owner.name,.int .u64 (n.jobs[i].owner.id:Int),.int .i64 n.jobs[i].owner.fr,.int .i64 n.jobs[i].owner.un,.int .i64 n.jobs[i].owner.ix,.str n.jobs[i].owner.tag,.str n.jobs[i].item.k,.str n.jobs[i].item.v,.int .i64 n.jobs[i].item.n,.bool n.jobs[i].item.g,.int .i64 n.jobs[i].acks,.int .i64 n.jobs[i].waits,.slice 1 (n.jobs[i].asked.map qaG),.str n.jobs[i].back.name,.int .u64 (n.jobs[i].back.id:Int),.int .i64 n.jobs[i].back.fr,.int .i64 n.jobs[i].back.un,.int .i64 n.jobs[i].back.ix,.str n.jobs[i].back.tag,.int .i64 n.jobs[i].backRid,.int .i64 n.jobs[i].backJob],[.uptr [.str n.me.name,.int .u64 (n.me.id:Int),.int .i64 n.me.fr,.int .i64 n.me.un,.int .i64 n.me.ix,.str n.me.tag,.int .i64 n.clock,.str n.psk,.int .i64 n.gateI,.str n.gateK,.bool n.ready,.slice 8 (n.pred.map Pr.cs),.slice 8 (n.list.map Pr.cs),.slice 9 (n.fingers.map Fg.cs),.usl 20 (n.sessions.map Se.cs),.usl 23 (n.pends.map Pd.cs),.slice 4 (n.items.map It.cs),.usl 29 ((n.jobs.eraseIdx i).map Jb.cs),.int .i64 n.rid,.int .i64 n.jobId,.slice 1 (n.draws.map qaw),.usl 8 (n.results.map Rs.cs),.sc (.slice none 0 0)]]):=by
 have row:=qcA hi [.int .i64 n.jobs[i].id,.int .i64 n.jobs[i].kind,.int .i64 n.jobs[i].phase,.int .i64 n.jobs[i].hops,.int .i64 n.jobs[i].tries,.int .i64 n.jobs[i].til,.str n.jobs[i].key,.str n.jobs[i].val,.str n.jobs[i].owner.name,.int .u64 (n.jobs[i].owner.id:Int),.int .i64 n.jobs[i].owner.fr,.int .i64 n.jobs[i].owner.un,.int .i64 n.jobs[i].owner.ix,.str n.jobs[i].owner.tag,.str n.jobs[i].item.k,.str n.jobs[i].item.v,.int .i64 n.jobs[i].item.n,.bool n.jobs[i].item.g,.int .i64 n.jobs[i].acks,.int .i64 n.jobs[i].waits,.sc (.slice none 0 0),.str n.jobs[i].back.name,.int .u64 (n.jobs[i].back.id:Int),.int .i64 n.jobs[i].back.fr,.int .i64 n.jobs[i].back.un,.int .i64 n.jobs[i].back.ix,.str n.jobs[i].back.tag,.int .i64 n.jobs[i].backRid,.int .i64 n.jobs[i].backJob]
 have jl:=h.jl
 have cl:(qbd n.jobs i [.int .i64 n.jobs[i].id,.int .i64 n.jobs[i].kind,.int .i64 n.jobs[i].phase,.int .i64 n.jobs[i].hops,.int .i64 n.jobs[i].tries,.int .i64 n.jobs[i].til,.str n.jobs[i].key,.str n.jobs[i].val,.str n.jobs[i].owner.name,.int .u64 (n.jobs[i].owner.id:Int),.int .i64 n.jobs[i].owner.fr,.int .i64 n.jobs[i].owner.un,.int .i64 n.jobs[i].owner.ix,.str n.jobs[i].owner.tag,.str n.jobs[i].item.k,.str n.jobs[i].item.v,.int .i64 n.jobs[i].item.n,.bool n.jobs[i].item.g,.int .i64 n.jobs[i].acks,.int .i64 n.jobs[i].waits,.sc (.slice none 0 0),.str n.jobs[i].back.name,.int .u64 (n.jobs[i].back.id:Int),.int .i64 n.jobs[i].back.fr,.int .i64 n.jobs[i].back.un,.int .i64 n.jobs[i].back.ix,.str n.jobs[i].back.tag,.int .i64 n.jobs[i].backRid,.int .i64 n.jobs[i].backJob]).all qbN=true:=List.all_eq_true.2 fun r hr=>by
  rcases List.mem_or_eq_of_mem_set hr with h1 | rfl
  ·exact List.all_eq_true.1 (qsZ n.jobs) r h1
  ·rfl
 have on:qcb (qbd n.jobs i [.int .i64 n.jobs[i].id,.int .i64 n.jobs[i].kind,.int .i64 n.jobs[i].phase,.int .i64 n.jobs[i].hops,.int .i64 n.jobs[i].tries,.int .i64 n.jobs[i].til,.str n.jobs[i].key,.str n.jobs[i].val,.str n.jobs[i].owner.name,.int .u64 (n.jobs[i].owner.id:Int),.int .i64 n.jobs[i].owner.fr,.int .i64 n.jobs[i].owner.un,.int .i64 n.jobs[i].owner.ix,.str n.jobs[i].owner.tag,.str n.jobs[i].item.k,.str n.jobs[i].item.v,.int .i64 n.jobs[i].item.n,.bool n.jobs[i].item.g,.int .i64 n.jobs[i].acks,.int .i64 n.jobs[i].waits,.sc (.slice none 0 0),.str n.jobs[i].back.name,.int .u64 (n.jobs[i].back.id:Int),.int .i64 n.jobs[i].back.fr,.int .i64 n.jobs[i].back.un,.int .i64 n.jobs[i].back.ix,.str n.jobs[i].back.tag,.int .i64 n.jobs[i].backRid,.int .i64 n.jobs[i].backJob])=true:=List.all_eq_true.2 fun r hr=>by
  rcases List.mem_or_eq_of_mem_set hr with h1 | rfl
  ·exact List.all_eq_true.1 (qsY n.jobs) r h1
  ·rfl
 have del:=qtC (qbd n.jobs i [.int .i64 n.jobs[i].id,.int .i64 n.jobs[i].kind,.int .i64 n.jobs[i].phase,.int .i64 n.jobs[i].hops,.int .i64 n.jobs[i].tries,.int .i64 n.jobs[i].til,.str n.jobs[i].key,.str n.jobs[i].val,.str n.jobs[i].owner.name,.int .u64 (n.jobs[i].owner.id:Int),.int .i64 n.jobs[i].owner.fr,.int .i64 n.jobs[i].owner.un,.int .i64 n.jobs[i].owner.ix,.str n.jobs[i].owner.tag,.str n.jobs[i].item.k,.str n.jobs[i].item.v,.int .i64 n.jobs[i].item.n,.bool n.jobs[i].item.g,.int .i64 n.jobs[i].acks,.int .i64 n.jobs[i].waits,.sc (.slice none 0 0),.str n.jobs[i].back.name,.int .u64 (n.jobs[i].back.id:Int),.int .i64 n.jobs[i].back.fr,.int .i64 n.jobs[i].back.un,.int .i64 n.jobs[i].back.ix,.str n.jobs[i].back.tag,.int .i64 n.jobs[i].backRid,.int .i64 n.jobs[i].backJob]) i (by simp [qbd];exact hi) (by simp [qbd];omega) cl on
 rw [show (qbd n.jobs i [.int .i64 n.jobs[i].id,.int .i64 n.jobs[i].kind,.int .i64 n.jobs[i].phase,.int .i64 n.jobs[i].hops,.int .i64 n.jobs[i].tries,.int .i64 n.jobs[i].til,.str n.jobs[i].key,.str n.jobs[i].val,.str n.jobs[i].owner.name,.int .u64 (n.jobs[i].owner.id:Int),.int .i64 n.jobs[i].owner.fr,.int .i64 n.jobs[i].owner.un,.int .i64 n.jobs[i].owner.ix,.str n.jobs[i].owner.tag,.str n.jobs[i].item.k,.str n.jobs[i].item.v,.int .i64 n.jobs[i].item.n,.bool n.jobs[i].item.g,.int .i64 n.jobs[i].acks,.int .i64 n.jobs[i].waits,.sc (.slice none 0 0),.str n.jobs[i].back.name,.int .u64 (n.jobs[i].back.id:Int),.int .i64 n.jobs[i].back.fr,.int .i64 n.jobs[i].back.un,.int .i64 n.jobs[i].back.ix,.str n.jobs[i].back.tag,.int .i64 n.jobs[i].backRid,.int .i64 n.jobs[i].backJob]).eraseIdx i=(n.jobs.eraseIdx i).map Jb.cs from by unfold qbd;rw [qpN,qkV]]at del
 rw [qaa Tryz.func213 rfl rfl Tryz.results213 qwF.1 rfl rfl (by kernel_rfl)]
 simp -implicitDefEqProofs -dsimp +contextual (maxSteps:=9999999) (disch:=first | omega | simp only [go_sem]<;>omega | refine ib ?_;kernel_rfl) only [go_sem,seval,↓reduceIte,row,del,hi,cl]
 rw [ha]
 rfl
end Go.Proofs.YtnpkhdjgedeppaaGreatDoor
