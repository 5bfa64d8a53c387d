import Derived.Test.YtnpkhdjgedeppaaGreatDoorTCop16
import Derived.Lib.Mul64
namespace Go.Proofs.YtnpkhdjgedeppaaGreatDoor
set_option maxHeartbeats 64000000
open Go.Am
set_option linter.unusedSimpArgs false
set_option linter.unusedVariables false
set_option maxRecDepth 100000
def qeE (e:En):Bool:=qfW e.name&&decide (0≤e.fr)&&decide (e.fr≤e.un)&&decide (e.un≤1073741824)&&decide (0≤e.ix)&&decide (e.ix≤64)&&decide (e.tag.length=32)
def qfT (k:List UInt8) (e:En):List UInt8:=qDN k (ql5 e)
def qaG (gi:Int) (gk:List UInt8) (e:En) (now:Int):Int:=
 if qeE e=true then if e.ix<gi then 33 else if gi<e.ix then 34 else if e.tag=qfT gk e then if now<e.fr∨e.un<now then 32 else 0 else 20 else 11
def qaN (gi:Int) (gk:List UInt8) (e:En) (now:Int):Pr:=if qaG gi gk e now=0 then ⟨e,now,gi⟩ else qtS
@[go_sem] theorem qOK (e : En) (hn : e.name.length ≤ 1000000000000) : fn C 200 [] [.agg [.str e.name, .int .u64 (e.id : Int), .int .i64 e.fr, .int .i64 e.un, .int .i64 e.ix, .str e.tag]] = some (.bool (qeE e), []) := by
  rw [qaa Tryz.func200 rfl rfl Tryz.results200 qF8.1 rfl rfl (by kernel_rfl)]
  simp -implicitDefEqProofs -dsimp +contextual (maxSteps := 9999999) (disch := first | omega | simp only [go_sem] <;> omega | refine ib ?_; kernel_rfl) only [go_sem, seval, ↓reduceIte]
  (repeat' (refine qae (fun _ => ?_) (fun _ => ?_))) <;> exact qaw (by simp [qeE, *])
@[go_sem] theorem qOL (e : En) (hn : e.name.length ≤ 1000000000000) : fn C 220 [] [.agg [.str e.name, .int .u64 (e.id : Int), .int .i64 e.fr, .int .i64 e.un, .int .i64 e.ix, .str e.tag]] = some (.bool (qeE e), []) := by
  rw [qaa Tryz.func220 rfl rfl Tryz.results220 qGo.1 rfl rfl (by kernel_rfl)]
  simp -implicitDefEqProofs -dsimp +contextual (maxSteps := 9999999) (disch := first | omega | simp only [go_sem] <;> omega | refine ib ?_; kernel_rfl) only [go_sem, seval, ↓reduceIte]
  (repeat' (refine qae (fun _ => ?_) (fun _ => ?_))) <;> exact qaw (by simp [qeE, *])
@[go_sem] theorem qOM (k m t:List UInt8) (h:k.length≤1000000) (hf:m.length≤500000) (ht:t.length≤1000000):fn C 246 [] [.slice 1 (k.map qab),.slice 1 (m.map qab),.slice 1 (t.map qab)]=some (.bool (decide (qDN k m=t)),[]):=by
 rw [qaa Tryz.func246 rfl rfl Tryz.results246 qGG.1 rfl rfl (by kernel_rfl)]
 have hl:=qjR k m
 simp -implicitDefEqProofs -dsimp +contextual (maxSteps:=9999999) (disch:=first | omega | simp only [go_sem]<;>omega | refine ib ?_;kernel_rfl) only [go_sem,seval,↓reduceIte]
@[go_sem] theorem qON (k:List UInt8) (e:En) (h:e.ok) (hn:e.name.length≤10000) (ht:e.tag.length≤10000) (hk:k.length≤10000):fn C 202 [] [.str k,.agg [.str e.name,.int .u64 (e.id:Int),.int .i64 e.fr,.int .i64 e.un,.int .i64 e.ix,.str e.tag]]=some (.bool (decide (e.tag=qfT k e)),[]):=by
 rw [qaa Tryz.func202 rfl rfl Tryz.results202 qGa.1 rfl rfl (by kernel_rfl)]
 have e1:=qM2 e h (by omega)
 have e2:=qOM k (ql5 e) e.tag (by omega) (by rw [qhO];omega) (by omega)
 simp -implicitDefEqProofs -dsimp +contextual (maxSteps:=9999999) (disch:=first | omega | simp only [go_sem]<;>omega | refine ib ?_;kernel_rfl) only [go_sem,seval,↓reduceIte,e1,e2]
 refine qaw ?_
 rw [qfT,decide_eq_true_iff,decide_eq_true_iff]
 exact eq_comm
@[go_sem] theorem qQp (a:Int):fn C 245 [] [.int .i64 a]=some (.bool false,[]):=by
 rw [qaa Tryz.func245 rfl rfl Tryz.results245 qGF.1 rfl rfl (by kernel_rfl)]
 simp -implicitDefEqProofs -dsimp +contextual (maxSteps:=9999999) (disch:=first | omega | simp only [go_sem]<;>omega | refine ib ?_;kernel_rfl) only [go_sem,seval,↓reduceIte]
@[go_sem] theorem qOO (a b:Int):fn C 201 [] [.int .i64 a,.int .i64 b]=some (.int .i64 (if a<b then -1 else if b<a then 1 else 0),[]):=by
 rw [qaa Tryz.func201 rfl rfl Tryz.results201 qF9.1 rfl rfl (by kernel_rfl)]
 by_cases h1:a<b
 ·simp -implicitDefEqProofs -dsimp +contextual (maxSteps:=9999999) (disch:=first | omega | simp only [go_sem]<;>omega | refine ib ?_;kernel_rfl) only [go_sem,seval,↓reduceIte,h1]
 ·by_cases h2:b<a
  ·simp -implicitDefEqProofs -dsimp +contextual (maxSteps:=9999999) (disch:=first | omega | simp only [go_sem]<;>omega | refine ib ?_;kernel_rfl) only [go_sem,seval,↓reduceIte,h1,h2]
  ·simp -implicitDefEqProofs -dsimp +contextual (maxSteps:=9999999) (disch:=first | omega | simp only [go_sem]<;>omega | refine ib ?_;kernel_rfl) only [go_sem,seval,↓reduceIte,h1,h2]
@[go_sem] theorem qOP (gi:Int) (gk:List UInt8) (e:En) (now:Int) (h:e.ok) (hn:e.name.length≤10000) (ht:e.tag.length≤10000) (hk:gk.length≤10000):fn C 134 [] [.agg [.int .i64 gi,.str gk],.agg [.str e.name,.int .u64 (e.id:Int),.int .i64 e.fr,.int .i64 e.un,.int .i64 e.ix,.str e.tag],.int .i64 now]=some (.int .i64 (qaG gi gk e now),[]):=by
 rw [qaa Tryz.func134 rfl rfl Tryz.results134 qFu.1 rfl rfl (by kernel_rfl)]
 have e0:=qOK e (by omega)
 have e1:=qON gk e h hn ht hk
 have e2:=qOO e.ix gi
 rw [qaG]
 by_cases h0:qeE e=true
 ·by_cases h1:e.ix<gi
  ·simp only [h1,if_true]at e2
   simp -implicitDefEqProofs -dsimp +contextual (maxSteps:=9999999) (disch:=first | omega | simp only [go_sem]<;>omega | refine ib ?_;kernel_rfl) only [go_sem,seval,↓reduceIte,e0,e2,h0,h1]
  ·by_cases h2:gi<e.ix
   ·simp only [h1,h2,if_true,if_false]at e2
    simp -implicitDefEqProofs -dsimp +contextual (maxSteps:=9999999) (disch:=first | omega | simp only [go_sem]<;>omega | refine ib ?_;kernel_rfl) only [go_sem,seval,↓reduceIte,e0,e2,h0,h1,h2]
   ·simp only [h1,h2,if_false]at e2
    by_cases h3:e.tag=qfT gk e
    ·rw [decide_eq_true h3]at e1
     rw [if_pos h3]
     by_cases h4:now<e.fr
     ·simp -implicitDefEqProofs -dsimp +contextual (maxSteps:=9999999) (disch:=first | omega | simp only [go_sem]<;>omega | refine ib ?_;kernel_rfl) only [go_sem,seval,↓reduceIte,e0,e1,e2,h0,h1,h2,h4]
     ·by_cases h5:e.un<now
      ·simp -implicitDefEqProofs -dsimp +contextual (maxSteps:=9999999) (disch:=first | omega | simp only [go_sem]<;>omega | refine ib ?_;kernel_rfl) only [go_sem,seval,↓reduceIte,e0,e1,e2,h0,h1,h2,h4,h5]
      ·simp -implicitDefEqProofs -dsimp +contextual (maxSteps:=9999999) (disch:=first | omega | simp only [go_sem]<;>omega | refine ib ?_;kernel_rfl) only [go_sem,seval,↓reduceIte,e0,e1,e2,h0,h1,h2,h4,h5]
    ·rw [decide_eq_false h3]at e1
     rw [if_neg h3]
     simp -implicitDefEqProofs -dsimp +contextual (maxSteps:=9999999) (disch:=first | omega | simp only [go_sem]<;>omega | refine ib ?_;kernel_rfl) only [go_sem,seval,↓reduceIte,e0,e1,e2,h0,h1,h2]
 ·simp -implicitDefEqProofs -dsimp +contextual (maxSteps:=9999999) (disch:=first | omega | simp only [go_sem]<;>omega | refine ib ?_;kernel_rfl) only [go_sem,seval,↓reduceIte,e0,h0]
@[go_sem] theorem e45 (gi:Int) (gk:List UInt8) (e:En) (now:Int) (h:e.ok) (hn:e.name.length≤10000) (ht:e.tag.length≤10000) (hk:gk.length≤10000):fn C 45 [] [.agg [.int .i64 gi,.str gk],.agg [.str e.name,.int .u64 (e.id:Int),.int .i64 e.fr,.int .i64 e.un,.int .i64 e.ix,.str e.tag],.int .i64 now]=some (.tup [.agg [.str (qaN gi gk e now).e.name,.int .u64 ((qaN gi gk e now).e.id:Int),.int .i64 (qaN gi gk e now).e.fr,.int .i64 (qaN gi gk e now).e.un,.int .i64 (qaN gi gk e now).e.ix,.str (qaN gi gk e now).e.tag,.int .i64 (qaN gi gk e now).since,.int .i64 (qaN gi gk e now).under],.int .i64 (qaG gi gk e now)],[]):=by
 rw [qaa Tryz.func45 rfl rfl Tryz.results45 qLU.1 rfl rfl (by kernel_rfl)]
 have e0:=qOP gi gk e now h hn ht hk
 rw [qaN]
 by_cases h0:qaG gi gk e now=0
 ·simp -implicitDefEqProofs -dsimp +contextual (maxSteps:=9999999) (disch:=first | omega | simp only [go_sem]<;>omega | refine ib ?_;kernel_rfl) only [go_sem,seval,↓reduceIte,e0,h0]
 ·simp -implicitDefEqProofs -dsimp +contextual (maxSteps:=9999999) (disch:=first | omega | simp only [go_sem]<;>omega | refine ib ?_;kernel_rfl) only [go_sem,seval,↓reduceIte,e0,h0]
  rfl
@[go_sem] theorem qOQ (k:List UInt8) (e:En) (h:e.ok) (hn:e.name.length≤10000) (ht:e.tag.length≤10000) (hk:k.length≤10000):fn C 221 [] [.str k,.agg [.str e.name,.int .u64 (e.id:Int),.int .i64 e.fr,.int .i64 e.un,.int .i64 e.ix,.str e.tag]]=some (.bool (decide (e.tag=qfT k e)),[]):=by
 rw [qaa Tryz.func221 rfl rfl Tryz.results221 qGp.1 rfl rfl (by kernel_rfl)]
 have e1:fn C 256 [] [.str k,.agg [.str e.name,.int .u64 (e.id:Int),.int .i64 e.fr,.int .i64 e.un,.int .i64 e.ix,.str e.tag]]=some (.agg [.str e.name,.int .u64 (e.id:Int),.int .i64 e.fr,.int .i64 e.un,.int .i64 e.ix,.str (qfT k e)],[]):=by
  rw [qaa Tryz.func256 rfl rfl Tryz.results256 qGP.1 rfl rfl (by kernel_rfl)]
  have e1:=qPS e h (by omega)
  have e2:=qPR k (ql5 e) (by omega) (by rw [qhO];omega)
  simp -implicitDefEqProofs -dsimp +contextual (maxSteps:=9999999) (disch:=first | omega | simp only [go_sem]<;>omega | refine ib ?_;kernel_rfl) only [go_sem,seval,↓reduceIte,e1,e2]
  rfl
 simp -implicitDefEqProofs -dsimp +contextual (maxSteps:=9999999) (disch:=first | omega | simp only [go_sem]<;>omega | refine ib ?_;kernel_rfl) only [go_sem,seval,↓reduceIte,e1]
 refine qaw ?_
 exact decide_eq_true_iff.trans (eq_comm.trans decide_eq_true_iff.symm)
@[go_sem] theorem qOR (gi:Int) (gk:List UInt8) (e:En) (now:Int) (h:e.ok) (hn:e.name.length≤10000) (ht:e.tag.length≤10000) (hk:gk.length≤10000):fn C 163 [] [.agg [.int .i64 gi,.str gk],.agg [.str e.name,.int .u64 (e.id:Int),.int .i64 e.fr,.int .i64 e.un,.int .i64 e.ix,.str e.tag],.int .i64 now]=some (.int .i64 (qaG gi gk e now),[]):=by
 rw [qaa Tryz.func163 rfl rfl Tryz.results163 qFQ.1 rfl rfl (by kernel_rfl)]
 have e0:=qOL e (by omega)
 have e1:=qOQ gk e h hn ht hk
 rw [qaG]
 by_cases h0:qeE e=true
 ·by_cases h1:e.ix<gi
  ·simp -implicitDefEqProofs -dsimp +contextual (maxSteps:=9999999) (disch:=first | omega | simp only [go_sem]<;>omega | refine ib ?_;kernel_rfl) only [go_sem,seval,↓reduceIte,e0,h0,h1]
  ·by_cases h2:gi<e.ix
   ·simp -implicitDefEqProofs -dsimp +contextual (maxSteps:=9999999) (disch:=first | omega | simp only [go_sem]<;>omega | refine ib ?_;kernel_rfl) only [go_sem,seval,↓reduceIte,e0,h0,h1,h2]
   ·by_cases h3:e.tag=qfT gk e
    ·rw [decide_eq_true h3]at e1
     rw [if_pos h3]
     by_cases h4:now<e.fr
     ·simp -implicitDefEqProofs -dsimp +contextual (maxSteps:=9999999) (disch:=first | omega | simp only [go_sem]<;>omega | refine ib ?_;kernel_rfl) only [go_sem,seval,↓reduceIte,e0,e1,h0,h1,h2,h4]
     ·by_cases h5:e.un<now
      ·simp -implicitDefEqProofs -dsimp +contextual (maxSteps:=9999999) (disch:=first | omega | simp only [go_sem]<;>omega | refine ib ?_;kernel_rfl) only [go_sem,seval,↓reduceIte,e0,e1,h0,h1,h2,h4,h5]
      ·simp -implicitDefEqProofs -dsimp +contextual (maxSteps:=9999999) (disch:=first | omega | simp only [go_sem]<;>omega | refine ib ?_;kernel_rfl) only [go_sem,seval,↓reduceIte,e0,e1,h0,h1,h2,h4,h5]
    ·rw [decide_eq_false h3]at e1
     rw [if_neg h3]
     simp -implicitDefEqProofs -dsimp +contextual (maxSteps:=9999999) (disch:=first | omega | simp only [go_sem]<;>omega | refine ib ?_;kernel_rfl) only [go_sem,seval,↓reduceIte,e0,e1,h0,h1,h2]
 ·simp -implicitDefEqProofs -dsimp +contextual (maxSteps:=9999999) (disch:=first | omega | simp only [go_sem]<;>omega | refine ib ?_;kernel_rfl) only [go_sem,seval,↓reduceIte,e0,h0]
@[go_sem] theorem qKJ (gi:Int) (gk:List UInt8) (e:En) (now:Int) (h:e.ok) (hn:e.name.length≤10000) (ht:e.tag.length≤10000) (hk:gk.length≤10000):fn C 100 [] [.agg [.int .i64 gi,.str gk],.agg [.str e.name,.int .u64 (e.id:Int),.int .i64 e.fr,.int .i64 e.un,.int .i64 e.ix,.str e.tag],.int .i64 now]=some (.tup [.agg [.str (qaN gi gk e now).e.name,.int .u64 ((qaN gi gk e now).e.id:Int),.int .i64 (qaN gi gk e now).e.fr,.int .i64 (qaN gi gk e now).e.un,.int .i64 (qaN gi gk e now).e.ix,.str (qaN gi gk e now).e.tag,.int .i64 (qaN gi gk e now).since,.int .i64 (qaN gi gk e now).under],.int .i64 (qaG gi gk e now)],[]):=by
 rw [qaa Tryz.func100 rfl rfl Tryz.results100 qFc.1 rfl rfl (by kernel_rfl)]
 have e0:=qOR gi gk e now h hn ht hk
 rw [qaN]
 by_cases h0:qaG gi gk e now=0
 ·simp -implicitDefEqProofs -dsimp +contextual (maxSteps:=9999999) (disch:=first | omega | simp only [go_sem]<;>omega | refine ib ?_;kernel_rfl) only [go_sem,seval,↓reduceIte,e0,h0]
 ·simp -implicitDefEqProofs -dsimp +contextual (maxSteps:=9999999) (disch:=first | omega | simp only [go_sem]<;>omega | refine ib ?_;kernel_rfl) only [go_sem,seval,↓reduceIte,e0,h0]
  rfl
end Go.Proofs.YtnpkhdjgedeppaaGreatDoor
namespace Go.Proofs.YtnpkhdjgedeppaaGreatDoor
set_option maxHeartbeats 64000000
open Go.Am
set_option linter.unusedSimpArgs false
set_option linter.unusedVariables false
set_option maxRecDepth 100000
attribute [local irreducible] qaC idB qdL
@[go_sem] theorem e68 (j:Jb):fn C 68 [] [.agg [.int .i64 j.id,.int .i64 j.kind,.int .i64 j.phase,.int .i64 j.hops,.int .i64 j.tries,.int .i64 j.til,.str j.key,.str j.val,.str j.owner.name,.int .u64 (j.owner.id:Int),.int .i64 j.owner.fr,.int .i64 j.owner.un,.int .i64 j.owner.ix,.str j.owner.tag,.str j.item.k,.str j.item.v,.int .i64 j.item.n,.bool j.item.g,.int .i64 j.acks,.int .i64 j.waits,.slice 1 (j.asked.map qaD),.str j.back.name,.int .u64 (j.back.id:Int),.int .i64 j.back.fr,.int .i64 j.back.un,.int .i64 j.back.ix,.str j.back.tag,.int .i64 j.backRid,.int .i64 j.backJob]]=some (.bool (qjy j),[]):=by
 rw [qaa Tryz.func68 rfl rfl Tryz.results68 qL6.1 rfl rfl (by kernel_rfl)]
 simp -implicitDefEqProofs -dsimp +contextual (maxSteps:=9999999) (disch:=first | omega | simp only [go_sem]<;>omega | refine ib ?_;kernel_rfl) only [go_sem,seval,↓reduceIte]
 (repeat' (refine qae (fun _=>?_) (fun _=>?_)))<;>exact qaw (by rw [qhu];first | (constructor<;>intro h'<;>first | omega | cases h')|(simp;omega))
theorem qt5 (n:Nd) (id:Int) (h:n.jobs.length≤1000000):fn C 72 [] [(aNd n),.int .i64 id]=some (.int .i64 (qgv n.jobs id),[]):=by
 rcases qbH n.jobs id with ⟨i,hi,hid,hm,hf,hc⟩|⟨hc,hf | ⟨i,hi,hf,hm⟩⟩
 ·rw [hc]
  have row:=qa8 n.jobs i hi
  have cl:=e68 n.jobs[i]
  rw [hm]at cl
  rw [qaa Tryz.func72 rfl rfl Tryz.results72 qIN.1 rfl rfl (by kernel_rfl)]
  simp -implicitDefEqProofs -dsimp +contextual (maxSteps:=9999999) (disch:=first | omega | simp only [go_sem]<;>omega | refine ib ?_;kernel_rfl) only [go_sem,seval,↓reduceIte,hf,row,cl,Nat.not_lt_zero]
 ·rw [hc]
  rw [qaa Tryz.func72 rfl rfl Tryz.results72 qIN.1 rfl rfl (by kernel_rfl)]
  simp -implicitDefEqProofs -dsimp +contextual (maxSteps:=9999999) (disch:=first | omega | simp only [go_sem]<;>omega | refine ib ?_;kernel_rfl) only [go_sem,seval,↓reduceIte,hf]
 ·rw [hc]
  have row:=qa8 n.jobs i hi
  have cl:=e68 n.jobs[i]
  rw [hm]at cl
  rw [qaa Tryz.func72 rfl rfl Tryz.results72 qIN.1 rfl rfl (by kernel_rfl)]
  simp -implicitDefEqProofs -dsimp +contextual (maxSteps:=9999999) (disch:=first | omega | simp only [go_sem]<;>omega | refine ib ?_;kernel_rfl) only [go_sem,seval,↓reduceIte,hf,row,cl,Nat.not_lt_zero]
theorem qyp (n:Nd) (id e:Int) (h:n.mid 1000000):fn C 98 [] [(aNd n),.int .i64 id,.int .i64 e]=some (qaU (qdc n id e),[]):=by
 have s:=e87 n id qaW false e h
 simp only [aNd,qek,qel,qem,qen]at s
 unfold qdc
 generalize qax n id qaW false e=d at *
 rw [Nd.cs]at s
 rw [qaa Tryz.func98 rfl rfl Tryz.results98 qMp.1 rfl rfl (by kernel_rfl)]
 simp -implicitDefEqProofs -dsimp +contextual (maxSteps:=9999999) (disch:=first | omega | simp only [go_sem]<;>omega | refine ib ?_;kernel_rfl) only [go_sem,seval,↓reduceIte,s]
theorem qyq (n:Nd) (i:Nat) (j:Jb) (hi:i<n.jobs.length) (h:n.mid 1000000):fn C 99 [] [(aNd n),.int .i64 (i:Nat),.agg [.int .i64 j.id,.int .i64 j.kind,.int .i64 j.phase,.int .i64 j.hops,.int .i64 j.tries,.int .i64 j.til,.str j.key,.str j.val,.str j.owner.name,.int .u64 (j.owner.id:Int),.int .i64 j.owner.fr,.int .i64 j.owner.un,.int .i64 j.owner.ix,.str j.owner.tag,.str j.item.k,.str j.item.v,.int .i64 j.item.n,.bool j.item.g,.int .i64 j.acks,.int .i64 j.waits,.slice 1 (j.asked.map qaD),.str j.back.name,.int .u64 (j.back.id:Int),.int .i64 j.back.fr,.int .i64 j.back.un,.int .i64 j.back.ix,.str j.back.tag,.int .i64 j.backRid,.int .i64 j.backJob]]=some (.agg ({ n with jobs:=n.jobs.set i j }:Nd).cs,[]):=by
 have jl:=h.jl
 have st:(n.jobs.map Jb.cs).set i [.int .i64 j.id,.int .i64 j.kind,.int .i64 j.phase,.int .i64 j.hops,.int .i64 j.tries,.int .i64 j.til,.str j.key,.str j.val,.str j.owner.name,.int .u64 (j.owner.id:Int),.int .i64 j.owner.fr,.int .i64 j.owner.un,.int .i64 j.owner.ix,.str j.owner.tag,.str j.item.k,.str j.item.v,.int .i64 j.item.n,.bool j.item.g,.int .i64 j.acks,.int .i64 j.waits,.slice 1 (j.asked.map qaD),.str j.back.name,.int .u64 (j.back.id:Int),.int .i64 j.back.fr,.int .i64 j.back.un,.int .i64 j.back.ix,.str j.back.tag,.int .i64 j.backRid,.int .i64 j.backJob]=(n.jobs.set i j).map Jb.cs:=by rw [List.map_set];rfl
 rw [qaa Tryz.func99 rfl rfl Tryz.results99 qMq.1 rfl rfl (by kernel_rfl)]
 simp -implicitDefEqProofs -dsimp +contextual (maxSteps:=9999999) (disch:=first | omega | simp only [go_sem]<;>omega | refine ib ?_;kernel_rfl) only [go_sem,seval,↓reduceIte,hi,st]
theorem qMK (n:Nd) (i:Nat) (j:Jb) (to:En) (hi:i<n.jobs.length) (hk:j.key.length≤10000) (h:n.mid 1000000):fn C 102 [] [(aNd n),.int .i64 (i:Nat),.agg [.int .i64 j.id,.int .i64 j.kind,.int .i64 j.phase,.int .i64 j.hops,.int .i64 j.tries,.int .i64 j.til,.str j.key,.str j.val,.str j.owner.name,.int .u64 (j.owner.id:Int),.int .i64 j.owner.fr,.int .i64 j.owner.un,.int .i64 j.owner.ix,.str j.owner.tag,.str j.item.k,.str j.item.v,.int .i64 j.item.n,.bool j.item.g,.int .i64 j.acks,.int .i64 j.waits,.slice 1 (j.asked.map qaD),.str j.back.name,.int .u64 (j.back.id:Int),.int .i64 j.back.fr,.int .i64 j.back.un,.int .i64 j.back.ix,.str j.back.tag,.int .i64 j.backRid,.int .i64 j.backJob],.agg [.str to.name,.int .u64 (to.id:Int),.int .i64 to.fr,.int .i64 to.un,.int .i64 to.ix,.str to.tag]]=some (qaU (qri n i j to j.id),[]):=by
 have e1:=e96 j.key hk
 have e2:=qyq n i { j with phase:=1,owner:=to } hi h
 try simp only at e2
 unfold qri qtT qfl
 generalize idB (qgR++j.key)=d at *
 rw [qao Tryz.func102 rfl rfl Tryz.results102 qFe.1 rfl rfl (by kernel_rfl)]
 simp -implicitDefEqProofs -dsimp +contextual (maxSteps:=9999999) (disch:=first | omega | simp only [go_sem]<;>omega | refine ib ?_;kernel_rfl) only [go_sem,seval,↓reduceIte,e1,e2,msZ]
structure CliOk (n:Nd):Prop where
 k:CliK n
 jobId:I64 n.jobId
theorem qKK (n:Nd) (i:Nat) (hi:i<n.jobs.length) (h:CliOk n):fn C 73 [] [(aNd n),.int .i64 (i:Nat)]=some (qaU (qjz n i n.jobs[i].id),[]):=by
 have row:=qa8 n.jobs i hi
 obtain ⟨k1,k2⟩:=h.k.jk _ (List.getElem_mem hi)
 have il:=h.k.md.il
 have e1:=e96 n.jobs[i].key k1
 have e2:=qOC n.me n.list (qfl n.jobs[i].key) (qgl _) h.k.me (Nat.le_trans h.k.md.ll (by decide)) (fun p hp=>h.k.li p hp)
 have e3:=qMx (qbD n.me n.list (qfl n.jobs[i].key)) n.me
 have e4:=qPl n.items n.jobs[i].key (by omega)
 have e5:=qMK n i n.jobs[i] (qbD n.me n.list (qfl n.jobs[i].key)) hi k1 (h.k.md.le (by omega))
 have e6:=e87 n n.jobs[i].id (qdI n.items n.jobs[i].key).1 ((qdI n.items n.jobs[i].key).2&&!(qdI n.items n.jobs[i].key).1.g) 0 (h.k.md.le (by omega))
 have e7:=qyq n i { n.jobs[i]with phase:=2 } hi (h.k.md.le (by omega))
 have e8:=qOH { n with jobs:=n.jobs.set i { n.jobs[i]with phase:=2 } } n.jobs[i].key n.jobs[i].val (decide (n.jobs[i].kind=2)) enZ 0 n.jobs[i].id (Nat.le_trans k1 (by decide)) (Nat.le_trans k2 (by decide)) h.k.clock h.jobId ((qfm i n.jobs[i] { n.jobs[i]with phase:=2 } h.k.md (List.getElem_mem hi) rfl).le (show 80000≤90000 by omega))
 try simp only at e7 e8
 unfold qjz
 rw [qa7 hi]
 rw [qfl]at e2 e3 e5 ⊢
 generalize hj:n.jobs[i]=j at *
 by_cases ho:qbD n.me n.list (idB (qgR++j.key))=n.me
 ·have ho':=eq_true ho
  rw [if_pos ho]
  by_cases k3:j.kind=3
  ·rw [if_pos k3]
   generalize qdI n.items j.key=q at *
   obtain ⟨x,b⟩:=q
   generalize qax n j.id _ _ 0=d at *
   rw [Nd.cs]at e6
   cases b<;>(simp only [Bool.true_and,Bool.false_and]at e6;rw [qaa Tryz.func73 rfl rfl Tryz.results73 qIO.1 rfl rfl (by kernel_rfl)];simp -implicitDefEqProofs -dsimp +contextual (maxSteps:=9999999) (disch:=first | omega | simp only [go_sem]<;>omega | refine ib ?_;kernel_rfl) only [go_sem,seval,↓reduceIte,row,e1,e2,e3,e4,e6,ho',k3])
  ·rw [if_neg k3]
   have k3':=eq_false k3
   generalize qdR _ _ _ _ _ _ _=q at *
   obtain ⟨d,acts⟩:=q
   unfold qaU at e8
   rw [Nd.cs]at e8
   simp only [aNd,enZ,Int.cast_ofNat_Int]at e8
   rw [qaa Tryz.func73 rfl rfl Tryz.results73 qIO.1 rfl rfl (by kernel_rfl)]
   simp -implicitDefEqProofs -dsimp +contextual (maxSteps:=9999999) (disch:=first | omega | simp only [go_sem]<;>omega | refine ib ?_;kernel_rfl) only [go_sem,seval,↓reduceIte,row,e1,e2,e3,e7,e8,ho',k3',enZ]
 ·have ho':=eq_false ho
  rw [if_neg ho]
  generalize qbD n.me n.list (idB (qgR++j.key))=o at *
  generalize qri n i j o j.id=q at *
  obtain ⟨d,acts⟩:=q
  unfold qaU at e5
  rw [Nd.cs]at e5
  rw [qaa Tryz.func73 rfl rfl Tryz.results73 qIO.1 rfl rfl (by kernel_rfl)]
  simp -implicitDefEqProofs -dsimp +contextual (maxSteps:=9999999) (disch:=first | omega | simp only [go_sem]<;>omega | refine ib ?_;kernel_rfl) only [go_sem,seval,↓reduceIte,row,e1,e2,e3,e5,ho']
end Go.Proofs.YtnpkhdjgedeppaaGreatDoor
namespace Go.Proofs.YtnpkhdjgedeppaaGreatDoor
set_option maxHeartbeats 64000000
open Go.Am
set_option linter.unusedSimpArgs false
set_option linter.unusedVariables false
set_option maxRecDepth 100000
def qfU (me:En) (l:List Pr):Nat:=match l.getLast? with | some p=>qaC me.id p.e.id | none=>0
def qc1 (me:En) (l:List Pr) (key:Nat) (owner:En):Int:=if l.length=0 then 0 else if qfU me l * 64<qaC key owner.id * l.length then 42 else 0
def qHD (n:Nd) (key:Nat) (from_ owner:En):Bool:=decide (owner.name=n.me.name)|| !decide (qaG n.gateI n.gateK owner n.clock=0)|| !decide (qaC key owner.id<qaC key from_.id)
def qlz (n:Nd) (i:Nat) (j:Jb) (id:Int) (from_ owner:En):Nd×List Ac:=
 if owner.name=from_.name∧owner.id=from_.id then
  if qc1 n.me n.list (qfl j.key) owner=0 then ({ n with jobs:=n.jobs.set i { j with phase:=2 } },[⟨false,from_,qzv j,6,id⟩]) else qdc n id 42
 else if 64≤j.hops then qdc n id 44
 else if qHD n (qfl j.key) from_ owner=true then qdc n id 42
 else qri n i { j with hops:=j.hops+1 } owner id
def qc2 (n:Nd) (id:Int) (from_ owner:En):Nd×List Ac:=
 if 0≤qgv n.jobs id then
  if (qfw n.jobs (qgv n.jobs id).toNat).phase=1∧from_.name=(qfw n.jobs (qgv n.jobs id).toNat).owner.name∧from_.id=(qfw n.jobs (qgv n.jobs id).toNat).owner.id then qlz n (qgv n.jobs id).toNat (qfw n.jobs (qgv n.jobs id).toNat) id from_ owner
  else (n,[])
 else (n,[])
def qrm (j:Jb) (m:Ms):It×Bool:=
 if j.kind=3 then (⟨j.key,m.val,m.ver,m.gone⟩,m.has&&!m.gone) else if j.kind=2 then (⟨j.key,[],m.ver,true⟩,false) else (⟨j.key,j.val,m.ver,false⟩,true)
def qlA (n:Nd) (i:Nat) (j:Jb) (id:Int) (m:Ms):Nd×List Ac:=
 if m.err=40∨m.err=41 then qc0 n i id m.err else if m.err=0 then (qax n id (qrm j m).1 (qrm j m).2 0,[]) else qdc n id m.err
def qcP (n:Nd) (id:Int) (m:Ms):Nd×List Ac:=
 if 0≤qgv n.jobs id then if (qfw n.jobs (qgv n.jobs id).toNat).phase=2 then qlA n (qgv n.jobs id).toNat (qfw n.jobs (qgv n.jobs id).toNat) id m else (n,[]) else (n,[])
end Go.Proofs.YtnpkhdjgedeppaaGreatDoor
namespace Go.Proofs.YtnpkhdjgedeppaaGreatDoor
set_option maxHeartbeats 64000000
open Go.Am
set_option linter.unusedSimpArgs false
set_option linter.unusedVariables false
set_option maxRecDepth 100000
attribute [local irreducible] qaC idB qdL
theorem qCV {n:Nd} (h:CliOk n) (i:Nat) (j j':Jb) (hj:j∈n.jobs) (ha:j'.asked=j.asked) (hk:j'.key=j.key) (hv:j'.val=j.val) (ht : -9223372036854775808≤j'.tries∧ -9223372036854775808≤j'.hops):CliOk { n with jobs:=n.jobs.set i j' }:=
 ⟨⟨qfm i j j' h.k.md hj ha,h.k.me,h.k.li,h.k.clock,fun x hx=>by
  rcases List.mem_or_eq_of_mem_set hx with hx | rfl
  ·exact h.k.jk x hx
  ·rw [hk,hv];exact h.k.jk j hj,fun x hx=>by
  rcases List.mem_or_eq_of_mem_set hx with hx | rfl
  ·exact h.k.ji x hx
  ·exact ht⟩,h.jobId⟩
theorem qzE (n:Nd) (i:Nat) (why:Int) (hi:i<n.jobs.length) (h:CliOk n):fn C 106 [] [(aNd n),.int .i64 (i:Nat),.int .i64 why]=some (qaU (qc0 n i n.jobs[i].id why),[]):=by
 have row:=qa8 n.jobs i hi
 have tl:=(h.k.ji _ (List.getElem_mem hi)).1
 have e1:=qyp n n.jobs[i].id why (h.k.md.le (by omega))
 have e2:=qyq n i { n.jobs[i]with tries:=n.jobs[i].tries+1 } hi (h.k.md.le (by omega))
 have e3:=qKK { n with jobs:=n.jobs.set i { n.jobs[i]with tries:=n.jobs[i].tries+1 } } i (by simpa using hi) (qCV h i n.jobs[i] _ (List.getElem_mem hi) rfl rfl rfl (by have:=h.k.ji _ (List.getElem_mem hi);exact ⟨by show _≤n.jobs[i].tries+1;omega,this.2⟩))
 simp only [aNd,List.getElem_set_self]at e3
 try simp only at e2
 unfold qc0
 rw [qa7 hi]
 generalize hj:n.jobs[i]=j at *
 by_cases ht:3≤j.tries
 ·rw [if_pos ht]
  generalize qdc n j.id why=q at *
  obtain ⟨d,acts⟩:=q
  unfold qaU at e1
  rw [Nd.cs]at e1
  rw [qaa Tryz.func106 rfl rfl Tryz.results106 qCt.1 rfl rfl (by kernel_rfl)]
  simp -implicitDefEqProofs -dsimp +contextual (maxSteps:=9999999) (disch:=first | omega | simp only [go_sem]<;>omega | refine ib ?_;kernel_rfl) only [go_sem,seval,↓reduceIte,row,e1,ht]
 ·rw [if_neg ht]
  generalize qjz _ i j.id=q at *
  obtain ⟨d,acts⟩:=q
  unfold qaU at e3
  rw [Nd.cs]at e3
  have ht':j.tries+1≤3:=by omega
  rw [qaa Tryz.func106 rfl rfl Tryz.results106 qCt.1 rfl rfl (by kernel_rfl)]
  simp -implicitDefEqProofs -dsimp +contextual (maxSteps:=9999999) (disch:=first | omega | simp only [go_sem]<;>omega | refine ib ?_;kernel_rfl) only [go_sem,seval,↓reduceIte,row,e2,e3,ht]
theorem qCW (n:Nd) (id:Int) (h:CliOk n):fn C 28 [] [(aNd n),.int .i64 id]=some (qaU (qb2 n id),[]):=by
 have e0:=qt5 n id (Nat.le_trans h.k.md.jl (by omega))
 rcases qbH n.jobs id with ⟨i,hi,hid,hm,hf,hc⟩|⟨hc,_⟩
 ·rw [qfR hc]
  rw [hc]at e0
  have e1:=qzE n i 43 hi h
  rw [hid]at e1
  generalize qc0 n i id 43=q at *
  obtain ⟨d,acts⟩:=q
  unfold qaU at e1
  rw [Nd.cs]at e1
  rw [qaa Tryz.func28 rfl rfl Tryz.results28 qKm.1 rfl rfl (by kernel_rfl)]
  simp -implicitDefEqProofs -dsimp +contextual (maxSteps:=9999999) (disch:=first | omega | simp only [go_sem]<;>omega | refine ib ?_;kernel_rfl) only [go_sem,seval,↓reduceIte,e0,e1,Nat.not_lt_zero]
 ·rw [qb2,hc,if_neg (by omega)]
  rw [hc]at e0
  rw [qaa Tryz.func28 rfl rfl Tryz.results28 qKm.1 rfl rfl (by kernel_rfl)]
  simp -implicitDefEqProofs -dsimp +contextual (maxSteps:=9999999) (disch:=first | omega | simp only [go_sem]<;>omega | refine ib ?_;kernel_rfl) only [go_sem,seval,↓reduceIte,e0]
theorem qhA {n:Nd} {id:Int} {i:Nat} {m:Ms} (hi:i<n.jobs.length) (h:qgv n.jobs id=(i:Int)):qcP n id m=if n.jobs[i].phase=2 then qlA n i n.jobs[i] id m else (n,[]):=by
 rw [qcP,h,if_pos (by omega),Int.toNat_natCast,qa7 hi]
theorem qeP {n:Nd} {id:Int} {m:Ms} (h:qgv n.jobs id= -1):qcP n id m=(n,[]):=by
 rw [qcP,h,if_neg (by omega)]
theorem qHE (n:Nd) (id:Int) (m:Ms) (h:CliOk n):fn C 26 [] [(aNd n),.int .i64 id,.agg [.int .i64 m.kind,.int .i64 m.rid,.int .i64 m.ver,.int .i64 m.err,.int .u64 (m.id:Int),.bool m.has,.bool m.gone,.str m.key,.str m.val,.slice 6 (m.ents.map En.cs),.slice 4 (m.items.map It.cs)]]=some (qaU (qcP n id m),[]):=by
 have e0:=qt5 n id (Nat.le_trans h.k.md.jl (by omega))
 rcases qbH n.jobs id with ⟨i,hi,hid,hm,hf,hc⟩|⟨hc,_⟩
 ·rw [qhA hi hc]
  rw [hc]at e0
  have row:=qa8 n.jobs i hi
  have mk:=(qhu _).1 hm
  have e1:=qzE n i m.err hi h
  have e2:=qyp n id m.err (h.k.md.le (by omega))
  have e3:=e87 n id (qrm n.jobs[i] m).1 (qrm n.jobs[i] m).2 0 (h.k.md.le (by omega))
  rw [hid]at e1
  unfold qlA
  generalize hj:n.jobs[i]=j at *
  by_cases hp:j.phase=2
  ·rw [if_pos hp]
   have hp':=eq_true hp
   by_cases he:m.err=40∨m.err=41
   ·rw [if_pos he]
    generalize qc0 n i id m.err=q at *
    obtain ⟨d,acts⟩:=q
    unfold qaU at e1
    rw [Nd.cs]at e1
    rcases he with he | he
    ·rw [he]at e1
     rw [qaa Tryz.func26 rfl rfl Tryz.results26 qxS.1 rfl rfl (by kernel_rfl)]
     simp -implicitDefEqProofs -dsimp +contextual (maxSteps:=9999999) (disch:=first | omega | simp only [go_sem]<;>omega | refine ib ?_;kernel_rfl) only [go_sem,seval,↓reduceIte,e0,row,e1,hp',he,Nat.not_lt_zero]
    ·rw [he]at e1
     rw [qaa Tryz.func26 rfl rfl Tryz.results26 qxS.1 rfl rfl (by kernel_rfl)]
     simp -implicitDefEqProofs -dsimp +contextual (maxSteps:=9999999) (disch:=first | omega | simp only [go_sem]<;>omega | refine ib ?_;kernel_rfl) only [go_sem,seval,↓reduceIte,e0,row,e1,hp',he,Nat.not_lt_zero]
   ·rw [if_neg he]
    have he1:=eq_false (fun h'=>he (.inl h'))
    have he2:=eq_false (fun h'=>he (.inr h'))
    by_cases h0:m.err=0
    ·rw [if_pos h0]
     unfold qrm at e3 ⊢
     by_cases k3:j.kind=3
     ·simp only [aNd,k3,if_true]at e3 ⊢
      generalize qax n id _ _ 0=d at *
      rw [Nd.cs]at e3
      cases hh:m.has<;>rw [hh]at e3<;>simp only [Bool.true_and,Bool.false_and]at e3<;>(rw [qaa Tryz.func26 rfl rfl Tryz.results26 qxS.1 rfl rfl (by kernel_rfl)];simp -implicitDefEqProofs -dsimp +contextual (maxSteps:=9999999) (disch:=first | omega | simp only [go_sem]<;>omega | refine ib ?_;kernel_rfl) only [go_sem,seval,↓reduceIte,e0,row,e3,hp',h0,k3,hh,Nat.not_lt_zero])
     ·by_cases k2:j.kind=2
      ·simp only [aNd,k2,if_true,if_false,Int.reduceEq]at e3 ⊢
       generalize qax n id _ _ 0=d at *
       rw [Nd.cs]at e3
       rw [qaa Tryz.func26 rfl rfl Tryz.results26 qxS.1 rfl rfl (by kernel_rfl)]
       simp -implicitDefEqProofs -dsimp +contextual (maxSteps:=9999999) (disch:=first | omega | simp only [go_sem]<;>omega | refine ib ?_;kernel_rfl) only [go_sem,seval,↓reduceIte,e0,row,e3,hp',h0,k2,Nat.not_lt_zero]
      ·have k1:j.kind=1:=by omega
       simp only [aNd,k1,if_true,if_false,Int.reduceEq]at e3 ⊢
       generalize qax n id _ _ 0=d at *
       rw [Nd.cs]at e3
       rw [qaa Tryz.func26 rfl rfl Tryz.results26 qxS.1 rfl rfl (by kernel_rfl)]
       simp -implicitDefEqProofs -dsimp +contextual (maxSteps:=9999999) (disch:=first | omega | simp only [go_sem]<;>omega | refine ib ?_;kernel_rfl) only [go_sem,seval,↓reduceIte,e0,row,e3,hp',h0,k1,Nat.not_lt_zero]
    ·rw [if_neg h0]
     have h0':=eq_false h0
     generalize qdc n id m.err=q at *
     obtain ⟨d,acts⟩:=q
     unfold qaU at e2
     rw [Nd.cs]at e2
     rw [qaa Tryz.func26 rfl rfl Tryz.results26 qxS.1 rfl rfl (by kernel_rfl)]
     simp -implicitDefEqProofs -dsimp +contextual (maxSteps:=9999999) (disch:=first | omega | simp only [go_sem]<;>omega | refine ib ?_;kernel_rfl) only [go_sem,seval,↓reduceIte,e0,row,e2,hp',he1,he2,h0',Nat.not_lt_zero]
  ·rw [if_neg hp]
   have hp':=eq_false hp
   rw [qaa Tryz.func26 rfl rfl Tryz.results26 qxS.1 rfl rfl (by kernel_rfl)]
   simp -implicitDefEqProofs -dsimp +contextual (maxSteps:=9999999) (disch:=first | omega | simp only [go_sem]<;>omega | refine ib ?_;kernel_rfl) only [go_sem,seval,↓reduceIte,e0,row,hp',Nat.not_lt_zero]
 ·rw [qeP hc]
  rw [hc]at e0
  rw [qaa Tryz.func26 rfl rfl Tryz.results26 qxS.1 rfl rfl (by kernel_rfl)]
  simp -implicitDefEqProofs -dsimp +contextual (maxSteps:=9999999) (disch:=first | omega | simp only [go_sem]<;>omega | refine ib ?_;kernel_rfl) only [go_sem,seval,↓reduceIte,e0]
def qjX:Nat→Nat→List Nat
 | 0,_=>[]
 | k+1,v=>v % 65536::qjX k (v / 65536)
theorem qej:∀k v,(qjX k v).length=k
 | 0,_=>rfl
 | k+1,v=>by simp [qjX,qej k]
theorem qjE:∀(k v i:Nat),i<k→(qjX k v)[i]?=some (v / 65536 ^ i % 65536)
 | 0,_,_,h=>by omega
 | k+1,v,0,_=>by simp [qjX]
 | k+1,v,i+1,h=>by
  rw [qjX,List.getElem?_cons_succ,qjE k _ i (by omega),Nat.div_div_eq_div_mul,Nat.pow_succ,Nat.mul_comm]
theorem qlB:∀(k v:Nat),qjX (k+1) v=qjX k v++[v / 65536 ^ k % 65536]
 | 0,v=>by simp [qjX]
 | k+1,v=>by
  rw [qjX,qlB k (v / 65536),qjX,List.cons_append,Nat.div_div_eq_div_mul,Nat.pow_succ,Nat.mul_comm]
theorem qfq (v i:Nat):v / 65536 ^ (i+1)=v / 65536 ^ i / 65536:=by
 rw [Nat.pow_succ,Nat.div_div_eq_div_mul]
theorem qCX {x y i:Nat} (h:x / 65536 ^ (i+1)=y / 65536 ^ (i+1)) (hne:x / 65536 ^ i % 65536≠y / 65536 ^ i % 65536):(y / 65536 ^ i % 65536<x / 65536 ^ i % 65536)↔y<x:=by
 rw [qfq,qfq]at h
 constructor
 ·intro hlt
  refine Nat.lt_of_not_le fun hle=>?_
  have:=Nat.div_le_div_right (c:=65536 ^ i) hle
  omega
 ·intro hlt
  have:=Nat.div_le_div_right (c:=65536 ^ i) (Nat.le_of_lt hlt)
  omega
theorem qCY {x y i:Nat} (h:x / 65536 ^ (i+1)=y / 65536 ^ (i+1)) (he:x / 65536 ^ i % 65536=y / 65536 ^ i % 65536):x / 65536 ^ i=y / 65536 ^ i:=by
 rw [qfq,qfq]at h
 omega
theorem qt6 (l:List Nat) (i d:Nat) (h:l[i]?=some d):(l.map qat)[i]?=some [.int .u64 (d:Int)]:=by
 rw [List.getElem?_map,h];rfl
theorem qHF (x y:Nat) (hx:x<65536 ^ 6) (hy:y<65536 ^ 6):fn C 160 [] [.slice 1 ((qjX 6 x).map qat),.slice 1 ((qjX 6 y).map qat)]=some (.bool (decide (y<x)),[]):=by
 have lx:=qej 6 x
 have ly:=qej 6 y
 have top:∀z,z<65536 ^ 6→z / 65536 ^ 6=0:=fun z h=>Nat.div_eq_of_lt h
 rw [qaa Tryz.func160 rfl rfl Tryz.results160 qFN.1 rfl rfl (by kernel_rfl)]
 simp -implicitDefEqProofs -dsimp +contextual (maxSteps:=9999999) (disch:=first | omega | simp only [go_sem]<;>omega | refine ib ?_;kernel_rfl) only [go_sem,seval,↓reduceIte]
 refine qai (fun (k:Nat) f H=>k≤6∧x / 65536 ^ (6 - k)=y / 65536 ^ (6 - k)∧f 0= .slice 1 ((qjX 6 x).map qat)∧f 1= .slice 1 ((qjX 6 y).map qat)∧f 5= .int .i64 (5 - (k:Int))∧H=qac.nil) (fun k=>6 - k) (fun _=>_) ?_ 0 _ _ (by exact ⟨by omega,by rw [top x hx,top y hy],rfl,rfl,rfl,rfl⟩)
 rintro k f _ ⟨hk,hd,f0,f1,f5,rfl⟩ ih
 by_cases h6:k<6
 ·obtain ⟨i,hi⟩:∃i:Nat,i=5 - k:=⟨_,rfl⟩
  have e1:6 - k=i+1:=by omega
  have e2:(5 - (k:Int))=(i:Int):=by omega
  rw [e1]at hd
  rw [e2]at f5
  have r1:=qt6 _ i _ (qjE 6 x i (by omega))
  have r2:=qt6 _ i _ (qjE 6 y i (by omega))
  have hi6:i<6:=by omega
  generalize hp:x / 65536 ^ i % 65536=p at *
  generalize hq:y / 65536 ^ i % 65536=q at *
  by_cases hne:p=q
  ·subst hne
   simp -implicitDefEqProofs -dsimp +contextual (maxSteps:=9999999) (disch:=first | omega | simp only [go_sem]<;>omega | refine ib ?_;kernel_rfl) only [go_sem,seval,↓reduceIte,f0,f1,f5,r1,r2,lx,ly,hi6,Nat.zero_le]
   refine ih (k+1) _ _ ⟨by omega,?_,f0,f1,?_,rfl⟩ (by omega)
   ·have:6 - (k+1)=i:=by omega
    rw [this]
    exact qCY hd (by rw [hp,hq])
   ·simp [upd];omega
  ·have pa:=qCX hd (by rw [hp,hq];exact hne)
   rw [hp,hq]at pa
   have hne':=eq_false hne
   simp -implicitDefEqProofs -dsimp +contextual (maxSteps:=9999999) (disch:=first | omega | simp only [go_sem]<;>omega | refine ib ?_;kernel_rfl) only [go_sem,seval,↓reduceIte,f0,f1,f5,r1,r2,lx,ly,hi6,hne',Nat.zero_le]
   simp only [pa]
 ·have hk6:k=6:=by omega
  subst hk6
  have:x=y:=by simpa using hd
  subst this
  simp -implicitDefEqProofs -dsimp +contextual (maxSteps:=9999999) (disch:=first | omega | simp only [go_sem]<;>omega | refine ib ?_;kernel_rfl) only [go_sem,seval,↓reduceIte,f0,f1,f5]
  simp
theorem qyr (v n k o i:Nat) (h:o+n * k=v / 65536 ^ i) (ho:o≤k):(o+n % 65536 * k) % 65536=v / 65536 ^ i % 65536∧(o+n % 65536 * k) / 65536+n / 65536 * k=v / 65536 ^ (i+1)∧(o+n % 65536 * k) / 65536≤k:=by
 have e:n * k=n % 65536 * k+65536 * (n / 65536 * k):=by
  rw [←Nat.mul_assoc,←Nat.add_mul,Nat.mod_add_div]
 have hb:n % 65536 * k≤65535 * k:=Nat.mul_le_mul_right _ (by omega)
 rw [qfq,←h,e]
 generalize n % 65536 * k=a at *
 generalize n / 65536 * k=b at *
 refine ⟨by omega,by omega,by omega⟩
theorem qoD (x k:Nat) (hx:x≤18446744073709551615) (hk:k≤1000000):fn C 161 [] [.int .u64 (x:Int),.int .i64 (k:Int)]=some (.slice 1 ((qjX 6 (x * k)).map qat),[]):=by
 rw [qao Tryz.func161 rfl rfl Tryz.results161 qFO.1 rfl rfl (by kernel_rfl)]
 simp -implicitDefEqProofs -dsimp +contextual (maxSteps:=9999999) (disch:=first | omega | simp only [go_sem]<;>omega | refine ib ?_;kernel_rfl) only [go_sem,seval,↓reduceIte]
 refine qdb 6 (fun i f H=>∃n o:Nat,o+n * k=x * k / 65536 ^ i∧o≤k∧n≤18446744073709551615∧f 0= .int .u64 (n:Int)∧f 1= .int .i64 (k:Int)∧f 6= .int .u64 (o:Int)∧f 7= .int .i64 (i:Nat)∧(∃g,f 5= .osl 105 g 0 (qjX i (x * k)).length∧H 105=⟨g,.live,1,(qjX i (x * k)).map qat,false⟩)) ?_ ?_
  (by exact ⟨x,0,by simp,Nat.zero_le _,hx,rfl,rfl,rfl,rfl,⟨1,rfl,rfl⟩⟩)
 ·rintro i f H hi ⟨n,o,h1,h2,h3,f0,f1,f6,f7,⟨g,f5,H5⟩⟩ ih
  obtain ⟨s1,s2,s3⟩:=qyr _ n k o i h1 h2
  have e1:((n:Int) % 65536)=((n % 65536:Nat):Int):=by omega
  have hb:n % 65536 * k≤65535 * 1000000:=Nat.mul_le_mul (by omega) hk
  have dl:=qej i (x * k)
  simp -implicitDefEqProofs -dsimp +contextual (maxSteps:=9999999) (disch:=first | omega | simp only [go_sem]<;>omega | refine ib ?_;kernel_rfl) only [go_sem,seval,↓reduceIte,f0,f1,f5,f6,f7,H5,hi,dl]
  refine ih _ _ ⟨n / 65536,(o+n % 65536 * k) / 65536,s2,s3,by omega,?_,f1,?_,rfl,⟨g+1,?_,?_⟩⟩
  ·rfl
  ·rfl
  ·rw [qej];rfl
  ·rw [qlB,←s1,List.map_append];rfl
 ·rintro f H ⟨n,o,h1,h2,h3,f0,f1,f6,f7,⟨g,f5,H5⟩⟩
  have dl:=qej 6 (x * k)
  simp -implicitDefEqProofs -dsimp +contextual (maxSteps:=9999999) (disch:=first | omega | simp only [go_sem]<;>omega | refine ib ?_;kernel_rfl) only [go_sem,seval,↓reduceIte,f0,f1,f5,f6,f7,H5,dl]
def qcs (me:En) (l:List Pr):Nat:=match l.getLast? with | some p=>p.e.id | none=>me.id
theorem qlC (me:En) (l:List Pr) (i:Nat) (hi:i<l.length):qcs me (l.take (i+1))=l[i].e.id:=by
 unfold qcs
 rw [List.take_succ_eq_append_getElem hi,List.getLast?_concat]
theorem qCZ (me:En) (l:List Pr) (hl:l.length≤1000000):fn C 219 [] [.agg [.str me.name,.int .u64 (me.id:Int),.int .i64 me.fr,.int .i64 me.un,.int .i64 me.ix,.str me.tag],.slice 8 (l.map Pr.cs)]=some (.int .u64 (qcs me l:Int),[]):=by
 rw [qaa Tryz.func219 rfl rfl Tryz.results219 qGn.1 rfl rfl (by kernel_rfl)]
 simp -implicitDefEqProofs -dsimp +contextual (maxSteps:=9999999) (disch:=first | omega | simp only [go_sem]<;>omega | refine ib ?_;kernel_rfl) only [go_sem,seval,↓reduceIte]
 refine qdb l.length (fun i f H=>f 1= .slice 8 (l.map Pr.cs)∧f 5= .int .u64 (qcs me (l.take i):Int)∧f 6= .int .i64 (i:Nat)) ?_ ?_ (by exact ⟨rfl,rfl,rfl⟩)
 ·rintro i f H hi ⟨f1,f5,f6⟩ ih
  have row:(l.map Pr.cs)[i]?=some [.str l[i].e.name,.int .u64 (l[i].e.id:Int),.int .i64 l[i].e.fr,.int .i64 l[i].e.un,.int .i64 l[i].e.ix,.str l[i].e.tag,.int .i64 l[i].since,.int .i64 l[i].under]:=by rw [List.getElem?_map,List.getElem?_eq_getElem hi];rfl
  simp -implicitDefEqProofs -dsimp +contextual (maxSteps:=9999999) (disch:=first | omega | simp only [go_sem]<;>omega | refine ib ?_;kernel_rfl) only [go_sem,seval,↓reduceIte,f1,f5,f6,hi,row]
  refine ih _ _ ⟨f1,?_,rfl⟩
  rw [qlC me l i hi]
  rfl
 ·rintro f H ⟨f1,f5,f6⟩
  rw [List.take_length]at f5
  simp -implicitDefEqProofs -dsimp +contextual (maxSteps:=9999999) (disch:=first | omega | simp only [go_sem]<;>omega | refine ib ?_;kernel_rfl) only [go_sem,seval,↓reduceIte,f1,f5,f6]
theorem qjF (me:En) (l:List Pr) (h:¬l.length=0):qfU me l=qaC me.id (qcs me l):=by
 unfold qfU qcs
 cases hl:l.getLast? with
 | none=>exact absurd (by rw [List.getLast?_eq_none_iff.1 hl];rfl) h
 | some p=>rfl
theorem qlD (me:En) (l:List Pr) (hm:me.id≤18446744073709551615) (hp:∀p∈l,p.e.id≤18446744073709551615):qcs me l≤18446744073709551615:=by
 unfold qcs
 cases hl:l.getLast? with
 | none=>exact hm
 | some p=>exact hp p (List.mem_of_getLast? hl)
theorem qKL (me:En) (l:List Pr) (hm:me.id≤18446744073709551615) (hl:l.length≤1000000) (hp:∀p∈l,p.e.id≤18446744073709551615) (h0:¬l.length=0):fn C 162 [] [.agg [.str me.name,.int .u64 (me.id:Int),.int .i64 me.fr,.int .i64 me.un,.int .i64 me.ix,.str me.tag],.slice 8 (l.map Pr.cs)]=some (.int .u64 (qfU me l:Int),[]):=by
 have e1:=qCZ me l hl
 have e2:=qIS me.id (qcs me l) hm (qlD me l hm hp)
 rw [qjF me l h0]
 have h0':=eq_false h0
 rw [qaa Tryz.func162 rfl rfl Tryz.results162 qFP.1 rfl rfl (by kernel_rfl)]
 simp -implicitDefEqProofs -dsimp +contextual (maxSteps:=9999999) (disch:=first | omega | simp only [go_sem]<;>omega | refine ib ?_;kernel_rfl) only [go_sem,seval,↓reduceIte,e1,e2,h0']
theorem qC0 (me:En) (l:List Pr) (key:Nat) (owner:En) (hk:key≤18446744073709551615) (hm:me.id≤18446744073709551615) (ho:owner.id≤18446744073709551615) (hl:l.length≤1000) (hp:∀p∈l,p.e.id≤18446744073709551615):fn C 97 [] [.agg [.str me.name,.int .u64 (me.id:Int),.int .i64 me.fr,.int .i64 me.un,.int .i64 me.ix,.str me.tag],.slice 8 (l.map Pr.cs),.int .u64 (key:Int),.agg [.str owner.name,.int .u64 (owner.id:Int),.int .i64 owner.fr,.int .i64 owner.un,.int .i64 owner.ix,.str owner.tag]]=some (.int .i64 (qc1 me l key owner),[]):=by
 unfold qc1
 by_cases h0:l.length=0
 ·rw [if_pos h0]
  have h0':=eq_true h0
  rw [qaa Tryz.func97 rfl rfl Tryz.results97 qIQ.1 rfl rfl (by kernel_rfl)]
  simp -implicitDefEqProofs -dsimp +contextual (maxSteps:=9999999) (disch:=first | omega | simp only [go_sem]<;>omega | refine ib ?_;kernel_rfl) only [go_sem,seval,↓reduceIte,h0']
 ·rw [if_neg h0]
  have h0':=eq_false h0
  have e1:=qIS key owner.id hk ho
  have e2:=qKL me l hm (by omega) hp h0
  have d1:=qgM key owner.id
  have d2:qfU me l≤18446744073709551615:=by rw [qjF me l h0];exact qgM _ _
  have e3:=qoD (qaC key owner.id) l.length d1 (by omega)
  have e4:=qoD (qfU me l) 64 d2 (by omega)
  have e5:=qHF (qaC key owner.id * l.length) (qfU me l * 64) (Nat.lt_of_le_of_lt (Nat.mul_le_mul d1 hl) (by decide)) (Nat.lt_of_le_of_lt (Nat.mul_le_mul_right 64 d2) (by decide))
  simp only [Int.cast_ofNat_Int]at e4
  generalize qaC key owner.id=a at *
  generalize qfU me l=b at *
  by_cases hx:b * 64<a * l.length
  ·rw [if_pos hx]
   rw [decide_eq_true hx]at e5
   rw [qaa Tryz.func97 rfl rfl Tryz.results97 qIQ.1 rfl rfl (by kernel_rfl)]
   simp -implicitDefEqProofs -dsimp +contextual (maxSteps:=9999999) (disch:=first | omega | simp only [go_sem]<;>omega | refine ib ?_;kernel_rfl) only [go_sem,seval,↓reduceIte,h0',e1,e2,e3,e4,e5]
  ·rw [if_neg hx]
   rw [decide_eq_false hx]at e5
   rw [qaa Tryz.func97 rfl rfl Tryz.results97 qIQ.1 rfl rfl (by kernel_rfl)]
   simp -implicitDefEqProofs -dsimp +contextual (maxSteps:=9999999) (disch:=first | omega | simp only [go_sem]<;>omega | refine ib ?_;kernel_rfl) only [go_sem,seval,↓reduceIte,h0',e1,e2,e3,e4,e5]
@[go_sem] theorem qOS (a a':List UInt8) (k k':Int):eqF E.P 8 191 (.agg [.str a,.int .u64 k]) (.agg [.str a',.int .u64 k'])=some (decide (a=a'∧k=k')):=by
 have u2:E.P.underlying 9=_:=Tryz.underlying9
 have u3:E.P.underlying 22=_:=Tryz.underlying22
 have u7:E.P.underlying 191=_:=Tryz.underlying191
 have hq:E.P.stoodInHeld 191=false:=by kernel_rfl
 simp [eqF,qoc,u2,u3,u7,hq,tq9.1,tq9.2.1,qqB.1,qqB.2.1,mkV,qcr,Bool.and_assoc,←Bool.decide_and]
@[go_sem] theorem e88 (a b:En):fn C 88 [] [.agg [.str a.name,.int .u64 (a.id:Int),.int .i64 a.fr,.int .i64 a.un,.int .i64 a.ix,.str a.tag],.agg [.str b.name,.int .u64 (b.id:Int),.int .i64 b.fr,.int .i64 b.un,.int .i64 b.ix,.str b.tag]]=some (.bool (decide (a.name=b.name∧a.id=b.id)),[]):=by
 rw [qaa Tryz.func88 rfl rfl Tryz.results88 qMi.1 rfl rfl (by kernel_rfl)]
 simp -implicitDefEqProofs -dsimp +contextual (maxSteps:=9999999) (disch:=first | omega | simp only [go_sem]<;>omega | refine ib ?_;kernel_rfl) only [go_sem,seval,↓reduceIte]
@[go_sem] theorem e95 (a b:En):fn C 95 [] [.agg [.str a.name,.int .u64 (a.id:Int),.int .i64 a.fr,.int .i64 a.un,.int .i64 a.ix,.str a.tag],.agg [.str b.name,.int .u64 (b.id:Int),.int .i64 b.fr,.int .i64 b.un,.int .i64 b.ix,.str b.tag]]=some (.bool (decide (a.name=b.name∧a.id=b.id)),[]):=by
 rw [qaa Tryz.func95 rfl rfl Tryz.results95 qMn.1 rfl rfl (by kernel_rfl)]
 simp -implicitDefEqProofs -dsimp +contextual (maxSteps:=9999999) (disch:=first | omega | simp only [go_sem]<;>omega | refine ib ?_;kernel_rfl) only [go_sem,seval,↓reduceIte]
 (repeat' (refine qae (fun _=>?_) (fun _=>?_)))<;>exact qaw (by simp [*])
theorem qhB {n:Nd} {id:Int} {i:Nat} {from_ owner:En} (hi:i<n.jobs.length) (h:qgv n.jobs id=(i:Int)):qc2 n id from_ owner=if n.jobs[i].phase=1∧from_.name=n.jobs[i].owner.name∧from_.id=n.jobs[i].owner.id then qlz n i n.jobs[i] id from_ owner else (n,[]):=by
 rw [qc2,h,if_pos (by omega),Int.toNat_natCast,qa7 hi]
theorem qeQ {n:Nd} {id:Int} {from_ owner:En} (h:qgv n.jobs id= -1):qc2 n id from_ owner=(n,[]):=by
 rw [qc2,h,if_neg (by omega)]
theorem qHG (n:Nd) (id:Int) (from_ owner:En) (h:CliOk n) (hf:from_.id≤18446744073709551615) (ho1:owner.ok) (ho2':owner.name.length≤10000) (ho3:owner.tag.length≤10000) (hgk:n.gateK.length≤10000) (hl:n.list.length≤1000):fn C 24 [] [(aNd n),.int .i64 id,.agg [.str from_.name,.int .u64 (from_.id:Int),.int .i64 from_.fr,.int .i64 from_.un,.int .i64 from_.ix,.str from_.tag],.agg [.str owner.name,.int .u64 (owner.id:Int),.int .i64 owner.fr,.int .i64 owner.un,.int .i64 owner.ix,.str owner.tag]]=some (qaU (qc2 n id from_ owner),[]):=by
 have e0:=qt5 n id (Nat.le_trans h.k.md.jl (by omega))
 rcases qbH n.jobs id with ⟨i,hi,hid,hm,hfi,hc⟩|⟨hc,_⟩
 ·subst hid
  rw [qhB hi hc]
  rw [hc]at e0
  have row:=qa8 n.jobs i hi
  obtain ⟨k1,k2⟩:=h.k.jk _ (List.getElem_mem hi)
  have hhj:=(h.k.ji _ (List.getElem_mem hi)).2
  have mk:=(qhu _).1 hm
  have w1:=e95 from_ n.jobs[i].owner
  have w2:=e95 owner from_
  have e1:=e96 n.jobs[i].key k1
  have e2:=qC0 n.me n.list (qfl n.jobs[i].key) owner (qgl _) h.k.me ho1.id hl (fun p hp=>h.k.li p hp)
  have e3:=qyq n i { n.jobs[i]with phase:=2 } hi (h.k.md.le (by omega))
  have e4:=qyp n n.jobs[i].id 42 (h.k.md.le (by omega))
  have e5:=qyp n n.jobs[i].id 44 (h.k.md.le (by omega))
  have e6:=qKJ n.gateI n.gateK owner n.clock ho1 ho2' ho3 hgk
  have e7:=qIS (qfl n.jobs[i].key) owner.id (qgl _) ho1.id
  have e8:=qIS (qfl n.jobs[i].key) from_.id (qgl _) hf
  have e9:=qMK n i { n.jobs[i]with hops:=n.jobs[i].hops+1 } owner hi k1 (h.k.md.le (by omega))
  try simp only at e3 e9
  unfold qlz qHD
  rw [qfl]at e2 e7 e8 ⊢
  generalize hj:n.jobs[i]=j at *
  by_cases hp:j.phase=1∧from_.name=j.owner.name∧from_.id=j.owner.id
  ·rw [if_pos hp]
   rw [decide_eq_true hp.2]at w1
   have hp':=eq_true hp.1
   by_cases ho2:owner.name=from_.name∧owner.id=from_.id
   ·rw [if_pos ho2]
    rw [decide_eq_true ho2]at w2
    by_cases hch:qc1 n.me n.list (idB (qgR++j.key)) owner=0
    ·rw [if_pos hch]
     rw [hch]at e2
     unfold qzv
     by_cases k3:j.kind=3
     ·rw [if_pos k3]
      have k3':=eq_true k3
      rw [qao Tryz.func24 rfl rfl Tryz.results24 qrg.1 rfl rfl (by kernel_rfl)]
      simp -implicitDefEqProofs -dsimp +contextual (maxSteps:=9999999) (disch:=first | omega | simp only [go_sem]<;>omega | refine ib ?_;kernel_rfl) only [go_sem,seval,↓reduceIte,e0,row,w1,w2,e1,e2,e3,hp',k3',msZ,Nat.not_lt_zero]
     ·rw [if_neg k3]
      have k3':=eq_false k3
      rw [qao Tryz.func24 rfl rfl Tryz.results24 qrg.1 rfl rfl (by kernel_rfl)]
      simp -implicitDefEqProofs -dsimp +contextual (maxSteps:=9999999) (disch:=first | omega | simp only [go_sem]<;>omega | refine ib ?_;kernel_rfl) only [go_sem,seval,↓reduceIte,e0,row,w1,w2,e1,e2,e3,hp',k3',msZ,Nat.not_lt_zero]
    ·rw [if_neg hch]
     have hch':=eq_false hch
     generalize qc1 n.me n.list (idB (qgR++j.key)) owner=c at *
     generalize qdc n _ 42=q at *
     obtain ⟨d,acts⟩:=q
     unfold qaU at e4
     rw [Nd.cs]at e4
     rw [qao Tryz.func24 rfl rfl Tryz.results24 qrg.1 rfl rfl (by kernel_rfl)]
     simp -implicitDefEqProofs -dsimp +contextual (maxSteps:=9999999) (disch:=first | omega | simp only [go_sem]<;>omega | refine ib ?_;kernel_rfl) only [go_sem,seval,↓reduceIte,e0,row,w1,w2,e1,e2,e4,hp',hch',Nat.not_lt_zero]
   ·rw [if_neg ho2]
    rw [decide_eq_false ho2]at w2
    by_cases h64:64≤j.hops
    ·rw [if_pos h64]
     generalize qdc n _ 44=q at *
     obtain ⟨d,acts⟩:=q
     unfold qaU at e5
     rw [Nd.cs]at e5
     rw [qao Tryz.func24 rfl rfl Tryz.results24 qrg.1 rfl rfl (by kernel_rfl)]
     simp -implicitDefEqProofs -dsimp +contextual (maxSteps:=9999999) (disch:=first | omega | simp only [go_sem]<;>omega | refine ib ?_;kernel_rfl) only [go_sem,seval,↓reduceIte,e0,row,w1,w2,e1,e5,hp',h64,Nat.not_lt_zero]
    ·rw [if_neg h64]
     by_cases hfar:owner.name=n.me.name
     ·rw [if_pos (by simp [hfar])]
      have hfar':=eq_true hfar
      generalize qdc n _ 42=q at *
      obtain ⟨d,acts⟩:=q
      unfold qaU at e4
      rw [Nd.cs]at e4
      rw [qao Tryz.func24 rfl rfl Tryz.results24 qrg.1 rfl rfl (by kernel_rfl)]
      simp -implicitDefEqProofs -dsimp +contextual (maxSteps:=9999999) (disch:=first | omega | simp only [go_sem]<;>omega | refine ib ?_;kernel_rfl) only [go_sem,seval,↓reduceIte,e0,row,w1,w2,e1,e4,e6,hp',h64,hfar',Nat.not_lt_zero]
     ·have hfar':=eq_false hfar
      by_cases hv:qaG n.gateI n.gateK owner n.clock=0
      ·rw [hv]at e6
       by_cases hd:qaC (idB (qgR++j.key)) owner.id<qaC (idB (qgR++j.key)) from_.id
       ·rw [if_neg (by simp [hfar,hv,hd])]
        generalize qaN n.gateI n.gateK owner n.clock=tp at *
        have hd':¬qaC (idB (qgR++j.key)) from_.id≤qaC (idB (qgR++j.key)) owner.id:=by omega
        generalize qaC (idB (qgR++j.key)) owner.id=d1 at *
        generalize qaC (idB (qgR++j.key)) from_.id=d2 at *
        generalize qri n i _ owner _=q at *
        obtain ⟨d,acts⟩:=q
        unfold qaU at e9
        rw [Nd.cs]at e9
        rw [qao Tryz.func24 rfl rfl Tryz.results24 qrg.1 rfl rfl (by kernel_rfl)]
        simp -implicitDefEqProofs -dsimp +contextual (maxSteps:=9999999) (disch:=first | omega | simp only [go_sem]<;>omega | refine ib ?_;kernel_rfl) only [go_sem,seval,↓reduceIte,e0,row,w1,w2,e1,e6,e7,e8,e9,hp',h64,hfar',hd,hd',Nat.not_lt_zero]
       ·rw [if_pos (by simp [hd])]
        generalize qaN n.gateI n.gateK owner n.clock=tp at *
        have hd':qaC (idB (qgR++j.key)) from_.id≤qaC (idB (qgR++j.key)) owner.id:=by omega
        generalize qaC (idB (qgR++j.key)) owner.id=d1 at *
        generalize qaC (idB (qgR++j.key)) from_.id=d2 at *
        generalize qdc n _ 42=q at *
        obtain ⟨d,acts⟩:=q
        unfold qaU at e4
        rw [Nd.cs]at e4
        rw [qao Tryz.func24 rfl rfl Tryz.results24 qrg.1 rfl rfl (by kernel_rfl)]
        simp -implicitDefEqProofs -dsimp +contextual (maxSteps:=9999999) (disch:=first | omega | simp only [go_sem]<;>omega | refine ib ?_;kernel_rfl) only [go_sem,seval,↓reduceIte,e0,row,w1,w2,e1,e4,e6,e7,e8,hp',h64,hfar',hd',Nat.not_lt_zero]
      ·rw [if_pos (by simp [hv])]
       have hv':=eq_false hv
       generalize qaN n.gateI n.gateK owner n.clock=tp at *
       generalize qaG n.gateI n.gateK owner n.clock=vv at *
       generalize qdc n _ 42=q at *
       obtain ⟨d,acts⟩:=q
       unfold qaU at e4
       rw [Nd.cs]at e4
       rw [qao Tryz.func24 rfl rfl Tryz.results24 qrg.1 rfl rfl (by kernel_rfl)]
       simp -implicitDefEqProofs -dsimp +contextual (maxSteps:=9999999) (disch:=first | omega | simp only [go_sem]<;>omega | refine ib ?_;kernel_rfl) only [go_sem,seval,↓reduceIte,e0,row,w1,w2,e1,e4,e6,hp',h64,hfar',hv',Nat.not_lt_zero]
  ·rw [if_neg hp]
   by_cases hp1:j.phase=1
   ·rw [decide_eq_false (fun h'=>hp ⟨hp1,h'⟩)]at w1
    have hp':=eq_true hp1
    rw [qao Tryz.func24 rfl rfl Tryz.results24 qrg.1 rfl rfl (by kernel_rfl)]
    simp -implicitDefEqProofs -dsimp +contextual (maxSteps:=9999999) (disch:=first | omega | simp only [go_sem]<;>omega | refine ib ?_;kernel_rfl) only [go_sem,seval,↓reduceIte,e0,row,w1,hp',Nat.not_lt_zero]
   ·have hp':=eq_false hp1
    rw [qao Tryz.func24 rfl rfl Tryz.results24 qrg.1 rfl rfl (by kernel_rfl)]
    simp -implicitDefEqProofs -dsimp +contextual (maxSteps:=9999999) (disch:=first | omega | simp only [go_sem]<;>omega | refine ib ?_;kernel_rfl) only [go_sem,seval,↓reduceIte,e0,row,hp',Nat.not_lt_zero]
 ·rw [qeQ hc]
  rw [hc]at e0
  rw [qao Tryz.func24 rfl rfl Tryz.results24 qrg.1 rfl rfl (by kernel_rfl)]
  simp -implicitDefEqProofs -dsimp +contextual (maxSteps:=9999999) (disch:=first | omega | simp only [go_sem]<;>omega | refine ib ?_;kernel_rfl) only [go_sem,seval,↓reduceIte,e0]
theorem qKM (P:Program) (t:TypeId) (n:Nat) (h:n<18446744073709551616):qbF P .and t (.int .u64 (n:Int)) (.int .u64 4294967295)=some (.int .u64 ((n % 4294967296:Nat):Int)):=by
 have e:qbF P .and t (.int .u64 (n:Int)) (.int .u64 4294967295)=some (.int .u64 (IntKind.u64.wrap (((BitVec.ofInt 64 (n:Int)) &&&(BitVec.ofInt 64 ((4294967295:Nat):Int))).toNat:Int))):=rfl
 rw [e,BitVec.ofInt_natCast,BitVec.ofInt_natCast,BitVec.toNat_and,BitVec.toNat_ofNat,BitVec.toNat_ofNat,Nat.mod_eq_of_lt (show n<2 ^ 64 by omega),show (4294967295:Nat) % 2 ^ 64=2 ^ 32 - 1 by decide,Nat.and_two_pow_sub_one_eq_mod,IntKind.wrap_u64]
 congr 2;omega
theorem qHH (a b:Nat) (ha:a≤18446744073709551615) (hb:b≤18446744073709551615):fn C 250 [] [.int .u64 (a:Int),.int .u64 (b:Int)]=some (.tup [.int .u64 ((a * b / 18446744073709551616:Nat):Int),.int .u64 ((a * b % 18446744073709551616:Nat):Int)],[]):=by
 rw [qaa Tryz.func250 rfl rfl Tryz.results250 qGK.1 rfl rfl (by kernel_rfl)]
 obtain ⟨m1,m2,m3,m4⟩:=Go.Lib.mul64_hi a b (by omega) (by omega)
 have m5:a / 4294967296 * (b / 4294967296)≤18446744065119617025:=Go.Lib.half_mul_le (by omega) (by omega)
 have m6:a * b / 18446744073709551616≤18446744073709551615:=by
  have:a * b≤18446744073709551615 * 18446744073709551615:=Nat.mul_le_mul ha hb
  omega
 have m7:IntKind.u64.wrap ((a * b:Nat):Int)=((a * b % 18446744073709551616:Nat):Int):=by rw [IntKind.wrap_u64];omega
 simp -implicitDefEqProofs -dsimp +contextual (maxSteps:=9999999) (disch:=first | omega | simp only [go_sem]<;>omega | refine ib ?_;kernel_rfl) only [go_sem,seval,↓reduceIte,qKM,m7]
 rw [←m4]
theorem qzF (a b:Nat) (ha:a≤18446744073709551615) (hb:b≤18446744073709551615):fn C 214 [] [.int .u64 (a:Int),.int .u64 (b:Int)]=some (.agg [.int .u64 ((a * b / 18446744073709551616:Nat):Int),.int .u64 ((a * b % 18446744073709551616:Nat):Int)],[]):=by
 have e1:=qHH a b ha hb
 rw [qaa Tryz.func214 rfl rfl Tryz.results214 qGi.1 rfl rfl (by kernel_rfl)]
 simp -implicitDefEqProofs -dsimp +contextual (maxSteps:=9999999) (disch:=first | omega | simp only [go_sem]<;>omega | refine ib ?_;kernel_rfl) only [go_sem,seval,↓reduceIte,e1]
theorem qC1 (me:En) (l:List Pr) (hl:l.length≤1000000):fn C 251 [] [.agg [.str me.name,.int .u64 (me.id:Int),.int .i64 me.fr,.int .i64 me.un,.int .i64 me.ix,.str me.tag],.slice 8 (l.map Pr.cs)]=some (.int .u64 (qcs me l:Int),[]):=by
 unfold qcs
 by_cases h0:l.length=0
 ·have:l=[]:=List.length_eq_zero_iff.1 h0
  subst this
  rw [qaa Tryz.func251 rfl rfl Tryz.results251 qCF.1 rfl rfl (by kernel_rfl)]
  simp -implicitDefEqProofs -dsimp +contextual (maxSteps:=9999999) (disch:=first | omega | simp only [go_sem]<;>omega | refine ib ?_;kernel_rfl) only [go_sem,seval,↓reduceIte]
  rfl
 ·have h0':=eq_false h0
  have hlt:l.length - 1<l.length:=by omega
  have e1:(l.length:Int) - 1=((l.length - 1:Nat):Int):=by omega
  have row:(l.map Pr.cs)[l.length - 1]?=some [.str l[l.length - 1].e.name,.int .u64 (l[l.length - 1].e.id:Int),.int .i64 l[l.length - 1].e.fr,.int .i64 l[l.length - 1].e.un,.int .i64 l[l.length - 1].e.ix,.str l[l.length - 1].e.tag,.int .i64 l[l.length - 1].since,.int .i64 l[l.length - 1].under]:=by rw [List.getElem?_map,List.getElem?_eq_getElem hlt];rfl
  rw [List.getLast?_eq_getElem?,List.getElem?_eq_getElem hlt]
  rw [qaa Tryz.func251 rfl rfl Tryz.results251 qCF.1 rfl rfl (by kernel_rfl)]
  simp -implicitDefEqProofs -dsimp +contextual (maxSteps:=9999999) (disch:=first | omega | simp only [go_sem]<;>omega | refine ib ?_;kernel_rfl) only [go_sem,seval,↓reduceIte,h0',e1,row,hlt]
theorem qHI (x y:Nat):fn C 215 [] [.agg [.int .u64 ((x / 18446744073709551616:Nat):Int),.int .u64 ((x % 18446744073709551616:Nat):Int)],.agg [.int .u64 ((y / 18446744073709551616:Nat):Int),.int .u64 ((y % 18446744073709551616:Nat):Int)]]=some (.bool (decide (y<x)),[]):=by
 rw [qaa Tryz.func215 rfl rfl Tryz.results215 qGj.1 rfl rfl (by kernel_rfl)]
 simp -implicitDefEqProofs -dsimp +contextual (maxSteps:=9999999) (disch:=first | omega | simp only [go_sem]<;>omega | refine ib ?_;kernel_rfl) only [go_sem,seval,↓reduceIte]
 (repeat' (refine qae (fun _=>?_) (fun _=>?_)))<;>exact qaw (by simp only [decide_eq_true_eq];omega)
theorem qHJ (me:En) (l:List Pr) (hm:me.id≤18446744073709551615) (hl:l.length≤1000000) (hp:∀p∈l,p.e.id≤18446744073709551615) (h0:¬l.length=0):fn C 216 [] [.agg [.str me.name,.int .u64 (me.id:Int),.int .i64 me.fr,.int .i64 me.un,.int .i64 me.ix,.str me.tag],.slice 8 (l.map Pr.cs)]=some (.int .u64 (qfU me l:Int),[]):=by
 have e1:=qC1 me l hl
 have e2:=qJf me.id (qcs me l) hm (qlD me l hm hp)
 rw [qjF me l h0]
 rw [qaa Tryz.func216 rfl rfl Tryz.results216 qGk.1 rfl rfl (by kernel_rfl)]
 simp -implicitDefEqProofs -dsimp +contextual (maxSteps:=9999999) (disch:=first | omega | simp only [go_sem]<;>omega | refine ib ?_;kernel_rfl) only [go_sem,seval,↓reduceIte,e1,e2]
theorem qKN (me:En) (l:List Pr) (key:Nat) (owner:En) (hk:key≤18446744073709551615) (hm:me.id≤18446744073709551615) (ho:owner.id≤18446744073709551615) (hl:l.length≤1000000) (hp:∀p∈l,p.e.id≤18446744073709551615):fn C 157 [] [.agg [.str me.name,.int .u64 (me.id:Int),.int .i64 me.fr,.int .i64 me.un,.int .i64 me.ix,.str me.tag],.slice 8 (l.map Pr.cs),.int .u64 (key:Int),.agg [.str owner.name,.int .u64 (owner.id:Int),.int .i64 owner.fr,.int .i64 owner.un,.int .i64 owner.ix,.str owner.tag]]=some (.bool (decide (qc1 me l key owner=0)),[]):=by
 unfold qc1
 by_cases h0:l.length=0
 ·rw [if_pos h0]
  have h0':=eq_true h0
  rw [qaa Tryz.func157 rfl rfl Tryz.results157 qxZ.1 rfl rfl (by kernel_rfl)]
  simp -implicitDefEqProofs -dsimp +contextual (maxSteps:=9999999) (disch:=first | omega | simp only [go_sem]<;>omega | refine ib ?_;kernel_rfl) only [go_sem,seval,↓reduceIte,h0']
 ·rw [if_neg h0]
  have h0':=eq_false h0
  have e1:=qJf key owner.id hk ho
  have e2:=qHJ me l hm hl hp h0
  have d1:=qgM key owner.id
  have d2:qfU me l≤18446744073709551615:=by rw [qjF me l h0];exact qgM _ _
  have e3:=qzF (qaC key owner.id) l.length d1 (by omega)
  have e4:=qzF (qfU me l) 64 d2 (by omega)
  have e5:=qHI (qaC key owner.id * l.length) (qfU me l * 64)
  simp only [Int.cast_ofNat_Int]at e4
  generalize qaC key owner.id=a at *
  generalize qfU me l=b at *
  by_cases hx:b * 64<a * l.length
  ·rw [if_pos hx]
   rw [decide_eq_true hx]at e5
   rw [qaa Tryz.func157 rfl rfl Tryz.results157 qxZ.1 rfl rfl (by kernel_rfl)]
   simp -implicitDefEqProofs -dsimp +contextual (maxSteps:=9999999) (disch:=first | omega | simp only [go_sem]<;>omega | refine ib ?_;kernel_rfl) only [go_sem,seval,↓reduceIte,h0',e1,e2,e3,e4,e5]
  ·rw [if_neg hx]
   rw [decide_eq_false hx]at e5
   rw [qaa Tryz.func157 rfl rfl Tryz.results157 qxZ.1 rfl rfl (by kernel_rfl)]
   simp -implicitDefEqProofs -dsimp +contextual (maxSteps:=9999999) (disch:=first | omega | simp only [go_sem]<;>omega | refine ib ?_;kernel_rfl) only [go_sem,seval,↓reduceIte,h0',e1,e2,e3,e4,e5]
theorem qC2 (me:En) (l:List Pr) (key:Nat) (owner:En) (hk:key≤18446744073709551615) (hm:me.id≤18446744073709551615) (ho:owner.id≤18446744073709551615) (hl:l.length≤1000000) (hp:∀p∈l,p.e.id≤18446744073709551615):fn C 89 [] [.agg [.str me.name,.int .u64 (me.id:Int),.int .i64 me.fr,.int .i64 me.un,.int .i64 me.ix,.str me.tag],.slice 8 (l.map Pr.cs),.int .u64 (key:Int),.agg [.str owner.name,.int .u64 (owner.id:Int),.int .i64 owner.fr,.int .i64 owner.un,.int .i64 owner.ix,.str owner.tag]]=some (.int .i64 (qc1 me l key owner),[]):=by
 have e1:=qKN me l key owner hk hm ho hl hp
 have hc:qc1 me l key owner=0∨qc1 me l key owner=42:=by unfold qc1;split;exact .inl rfl;split;exact .inr rfl;exact .inl rfl
 rcases hc with hc | hc<;>rw [hc]at e1 ⊢<;>(rw [qaa Tryz.func89 rfl rfl Tryz.results89 qMj.1 rfl rfl (by kernel_rfl)];simp -implicitDefEqProofs -dsimp +contextual (maxSteps:=9999999) (disch:=first | omega | simp only [go_sem]<;>omega | refine ib ?_;kernel_rfl) only [go_sem,seval,↓reduceIte,e1])
def qC3 (n:Nd) (i:Nat) (j:Jb) (to:En) (id:Int):Nd×List Ac:=({ n with jobs:=n.jobs.set i { j with phase:=2 } },[⟨false,to,qzv j,6,id⟩])
theorem qC4 (n:Nd) (id:Int) (i:Nat) (hi:i<n.jobs.length) (hid:n.jobs[i].id=id) (h:n.mid 1000000) (to:En) (H:qac) (hW:WorkC H n id (.ptr 60109018 1 i 0)) (hF:qu1 H 220000) (hG:qu1 H 80000) (K:AVal×qac→Option Res) (R:Option Res)
  (k:∀H',qzz (qC3 n i n.jobs[i] to id) H'→(∀o,o<60000→H' o=H o)→K (.tup [],H')=R):@kB _ _ (il C4 92 [.ptr 60111 1 0 0,.agg [.str to.name,.int .u64 (to.id:Int),.int .i64 to.fr,.int .i64 to.un,.int .i64 to.ix,.str to.tag]] H) ⟨K⟩=R:=by
 obtain ⟨W1,W2,W3,W4,W5,W6,W7⟩:=hW
 have jl:=h.jl
 have row:=qa8 n.jobs i hi
 have hrow:=fun J=>qlr n.jobs i J hi
 have g1:=hF 220103 (by omega);have g6:=hF 220104 (by omega)
 have g2:=hG 80105 (by omega);have g3:=hG 80106 (by omega);have g4:=hG 80118 (by omega);have g5:=hG 80119 (by omega)
 generalize hj:n.jobs[i]=j at *
 have jn:(qC3 n i j to id).1.jobs.length=n.jobs.length:=by simp [qC3]
 by_cases hk3:j.kind=3
 ·have k3':=eq_true hk3
  rw [qag (C:=C4) Tryz.func92 rfl Tryz.results92 (show (C4).M.loc 92=_ from qKp.1) (by kernel_rfl)]
  simp -implicitDefEqProofs -dsimp +contextual (maxSteps:=9999999) (disch:=first | omega | simp only [go_sem]<;>omega | refine ib ?_;kernel_rfl) only [go_sem,seval,↓reduceIte,W1,W2,W3,W4,W5,W6,W7,row,hi,g1,g6,qbS,hrow,List.set_set,k3']
  rw [qag (C:=C4) Tryz.func149 rfl Tryz.results149 (show (C4).M.loc 149=_ from qxX.1) (by kernel_rfl)]
  simp -implicitDefEqProofs -dsimp +contextual (maxSteps:=9999999) (disch:=first | omega | simp only [go_sem]<;>omega | refine ib ?_;kernel_rfl) only [go_sem,seval,↓reduceIte,W1,W2,W3,W4,W5,W6,W7,g2,g3,g4,g5]
  refine k _ ⟨60109015,60109016,60109018,60109022,1,1,1,1,.ptr 60109018 1 i 0,.osl 80119 1 0 1,.fn (.func 149) [] [.ptr 60106 1 0 0,.ptr 60103 1 0 0],by omega,by omega,by omega,by omega,?_,W4,W5,rfl,W7,.inr ⟨80119,1,rfl,by omega,by omega,?_⟩⟩ (fun o ho=>by repeat (first | rfl | rw [qac.set_ne _ _ (by omega)]))
  ·simp only [jn]
   rfl
  ·simp [qC3,qzv,hk3]
   rfl
 ·have k3':=eq_false hk3
  rw [qag (C:=C4) Tryz.func92 rfl Tryz.results92 (show (C4).M.loc 92=_ from qKp.1) (by kernel_rfl)]
  simp -implicitDefEqProofs -dsimp +contextual (maxSteps:=9999999) (disch:=first | omega | simp only [go_sem]<;>omega | refine ib ?_;kernel_rfl) only [go_sem,seval,↓reduceIte,W1,W2,W3,W4,W5,W6,W7,row,hi,g1,g6,qbS,hrow,List.set_set,k3']
  rw [qag (C:=C4) Tryz.func149 rfl Tryz.results149 (show (C4).M.loc 149=_ from qxX.1) (by kernel_rfl)]
  simp -implicitDefEqProofs -dsimp +contextual (maxSteps:=9999999) (disch:=first | omega | simp only [go_sem]<;>omega | refine ib ?_;kernel_rfl) only [go_sem,seval,↓reduceIte,W1,W2,W3,W4,W5,W6,W7,g2,g3,g4,g5]
  refine k _ ⟨60109015,60109016,60109018,60109022,1,1,1,1,.ptr 60109018 1 i 0,.osl 80119 1 0 1,.fn (.func 149) [] [.ptr 60106 1 0 0,.ptr 60103 1 0 0],by omega,by omega,by omega,by omega,?_,W4,W5,rfl,W7,.inr ⟨80119,1,rfl,by omega,by omega,?_⟩⟩ (fun o ho=>by repeat (first | rfl | rw [qac.set_ne _ _ (by omega)]))
  ·simp only [jn]
   rfl
  ·simp [qC3,qzv,hk3]
   rfl
theorem qC5 (n:Nd) (key:Nat) (f o:En):qHD n key f o=(decide (o.name=n.me.name)|| !decide (qaG n.gateI n.gateK o n.clock=0)|| !decide (qaC key o.id<qaC key f.id)):=rfl
theorem qqK (n:Nd) (id:Int) (i:Nat) (hi:i<n.jobs.length) (hk:n.jobs[i].key.length≤10000) (from_ owner:En) (hf:from_.id≤18446744073709551615) (ho1:owner.ok) (ho2:owner.name.length≤10000) (ho3:owner.tag.length≤10000) (hgk:n.gateK.length≤10000) (H:qac) (hW:WorkC H n id (.ptr 60109018 1 i 0)) (hF:qu1 H 240000) (K:AVal×qac→Option Res) (R:Option Res)
  (k:∀H',(∀o,(o<240000∨260000≤o)→H' o=H o)→K (.bool (!qHD n (qfl n.jobs[i].key) from_ owner),H')=R):@kB _ _ (il C4 93 [.ptr 60111 1 0 0,.agg [.str from_.name,.int .u64 (from_.id:Int),.int .i64 from_.fr,.int .i64 from_.un,.int .i64 from_.ix,.str from_.tag],.agg [.str owner.name,.int .u64 (owner.id:Int),.int .i64 owner.fr,.int .i64 owner.un,.int .i64 owner.ix,.str owner.tag]] H) ⟨K⟩=R:=by
 obtain ⟨W1,W2,W3,W4,W5,W6,W7⟩:=hW
 have row:=qa8 n.jobs i hi
 have g1:=hF 240104 (by omega);have g2:=hF 240105 (by omega);have g3:=hF 240107 (by omega)
 have e1:=e45 n.gateI n.gateK owner n.clock ho1 ho2 ho3 hgk
 have e2:=qJf (qfl n.jobs[i].key) owner.id (qgl _) ho1.id
 have e3:=qJf (qfl n.jobs[i].key) from_.id (qgl _) hf
 rw [qC5]at k
 have pl:=fun c0 c1 c2 c3 c4 c5 c6 c7 c8 c9 c10 c11 c12 c13 c14 c15 c16 c17 c18 c19 c20 c21 r0 r1 r2 r3 r4 r5 r7 r8 r9 r10 r11 r12 r13 r14 r15 r16 r17 r18 r19 r20 r21 r22 r23 r24 r25 r26 r27 r28 X F=>qiI c0 c1 c2 c3 c4 c5 c6 c7 c8 c9 c10 c11 c12 c13 c14 c15 c16 c17 c18 c19 c20 c21 r0 r1 r2 r3 r4 r5 r7 r8 r9 r10 r11 r12 r13 r14 r15 r16 r17 r18 r19 r20 r21 r22 r23 r24 r25 r26 r27 r28 X F n.jobs[i].key hk
 generalize hq:qfl n.jobs[i].key=q at *
 have hfr:∀(a b c:Am.Obj),∀o,(o<240000∨260000≤o)→(((H.set 240104 a).set 240105 b).set 240107 c) o=H o:=fun a b c o ho=>by rw [qac.set_ne _ _ (by omega),qac.set_ne _ _ (by omega),qac.set_ne _ _ (by omega)]
 by_cases h1:owner.name=n.me.name
 ·have h1':=eq_true h1
  rw [qag (C:=C4) Tryz.func93 rfl Tryz.results93 (show (C4).M.loc 93=_ from qIP.1) (by kernel_rfl)]
  simp -implicitDefEqProofs -dsimp +contextual (maxSteps:=9999999) (disch:=first | omega | simp only [go_sem]<;>omega | refine ib ?_;kernel_rfl) only [go_sem,seval,↓reduceIte,W1,W2,W3,W4,W5,W6,W7,row,hi,g1,g2,g3,e1,e2,e3,pl,h1']
  have fc:(!(decide (owner.name=n.me.name)|| !decide (qaG n.gateI n.gateK owner n.clock=0)|| !decide (qaC q owner.id<qaC q from_.id)))=false:=by simp [h1]
  rw [fc]at k
  exact k _ (hfr _ _ _)
 ·have h1':=eq_false h1
  by_cases h2:qaG n.gateI n.gateK owner n.clock=0
  ·have h2':=eq_true h2
   rw [qag (C:=C4) Tryz.func93 rfl Tryz.results93 (show (C4).M.loc 93=_ from qIP.1) (by kernel_rfl)]
   simp -implicitDefEqProofs -dsimp +contextual (maxSteps:=9999999) (disch:=first | omega | simp only [go_sem]<;>omega | refine ib ?_;kernel_rfl) only [go_sem,seval,↓reduceIte,W1,W2,W3,W4,W5,W6,W7,row,hi,g1,g2,g3,e1,e2,e3,pl,h1',h2']
   have fc:(!(decide (owner.name=n.me.name)|| !decide (qaG n.gateI n.gateK owner n.clock=0)|| !decide (qaC q owner.id<qaC q from_.id)))=decide (qaC q owner.id<qaC q from_.id):=by simp [h1,h2]
   rw [fc]at k
   exact k _ (hfr _ _ _)
  ·have h2':=eq_false h2
   rw [qag (C:=C4) Tryz.func93 rfl Tryz.results93 (show (C4).M.loc 93=_ from qIP.1) (by kernel_rfl)]
   simp -implicitDefEqProofs -dsimp +contextual (maxSteps:=9999999) (disch:=first | omega | simp only [go_sem]<;>omega | refine ib ?_;kernel_rfl) only [go_sem,seval,↓reduceIte,W1,W2,W3,W4,W5,W6,W7,row,hi,g1,g2,g3,e1,e2,e3,pl,h1',h2']
   have fc:(!(decide (owner.name=n.me.name)|| !decide (qaG n.gateI n.gateK owner n.clock=0)|| !decide (qaC q owner.id<qaC q from_.id)))=false:=by simp [h1,h2]
   rw [fc]at k
   exact k _ (hfr _ _ _)
theorem qqL (n:Nd) (id:Int) (i:Nat) (hi:i<n.jobs.length) (m:Ms) (H:qac) (hW:WorkC H n id (.ptr 60109018 1 i 0)) (hF:qu1 H 280000) (K:AVal×qac→Option Res) (R:Option Res)
  (k:∀H',(∀o,(o<280000∨300000≤o)→H' o=H o)→K (.tup [.agg (qrm n.jobs[i] m).1.cs,.bool (qrm n.jobs[i] m).2],H')=R):@kB _ _ (il C4 104 [.ptr 60111 1 0 0,.agg [.int .i64 m.kind,.int .i64 m.rid,.int .i64 m.ver,.int .i64 m.err,.int .u64 (m.id:Int),.bool m.has,.bool m.gone,.str m.key,.str m.val,.slice 6 (m.ents.map En.cs),.slice 4 (m.items.map It.cs)]] H) ⟨K⟩=R:=by
 obtain ⟨W1,W2,W3,W4,W5,W6,W7⟩:=hW
 have row:=qa8 n.jobs i hi
 have g1:=hF 280102 (by omega);have g2:=hF 280103 (by omega);have g3:=hF 280104 (by omega);have g4:=hF 280105 (by omega)
 unfold qrm at k
 generalize hj:n.jobs[i]=j at *
 by_cases k3:j.kind=3
 ·rw [if_pos k3]at k
  have k3':=eq_true k3
  cases hh:m.has<;>rw [hh]at k<;>simp only [Bool.true_and,Bool.false_and]at k
  all_goals
   rw [qag (C:=C4) Tryz.func104 rfl Tryz.results104 (show (C4).M.loc 104=_ from qxU.1) (by kernel_rfl)]
   simp -implicitDefEqProofs -dsimp +contextual (maxSteps:=9999999) (disch:=first | omega | simp only [go_sem]<;>omega | refine ib ?_;kernel_rfl) only [go_sem,seval,↓reduceIte,W1,W2,W3,W4,W5,W6,W7,row,hi,g1,g2,g3,g4,k3',hh]
   refine k _ (fun o ho=>?_)
   repeat (first | rfl | rw [qac.set_ne _ _ (by omega)])
 ·rw [if_neg k3]at k
  have k3':=eq_false k3
  by_cases k2:j.kind=2
  ·rw [if_pos k2]at k
   have k2':=eq_true k2
   rw [qag (C:=C4) Tryz.func104 rfl Tryz.results104 (show (C4).M.loc 104=_ from qxU.1) (by kernel_rfl)]
   simp -implicitDefEqProofs -dsimp +contextual (maxSteps:=9999999) (disch:=first | omega | simp only [go_sem]<;>omega | refine ib ?_;kernel_rfl) only [go_sem,seval,↓reduceIte,W1,W2,W3,W4,W5,W6,W7,row,hi,g1,g2,g3,g4,k2',k3']
   refine k _ (fun o ho=>?_)
   repeat (first | rfl | rw [qac.set_ne _ _ (by omega)])
  ·rw [if_neg k2]at k
   have k2':=eq_false k2
   rw [qag (C:=C4) Tryz.func104 rfl Tryz.results104 (show (C4).M.loc 104=_ from qxU.1) (by kernel_rfl)]
   simp -implicitDefEqProofs -dsimp +contextual (maxSteps:=9999999) (disch:=first | omega | simp only [go_sem]<;>omega | refine ib ?_;kernel_rfl) only [go_sem,seval,↓reduceIte,W1,W2,W3,W4,W5,W6,W7,row,hi,g1,g2,g3,g4,k2',k3']
   refine k _ (fun o ho=>?_)
   repeat (first | rfl | rw [qac.set_ne _ _ (by omega)])
theorem qHK (n:Nd) (id:Int) (m:Ms) (h:CliK n):fn C4 25 [] [(aNd n),.int .i64 id,.agg [.int .i64 m.kind,.int .i64 m.rid,.int .i64 m.ver,.int .i64 m.err,.int .u64 (m.id:Int),.bool m.has,.bool m.gone,.str m.key,.str m.val,.slice 6 (m.ents.map En.cs),.slice 4 (m.items.map It.cs)]]=some (.tup [.agg (qcP n id m).1.cs,.slice 20 ((qcP n id m).2.map Ac.cs)],[]):=by
 rw [qaa (C:=C4) Tryz.func25 rfl rfl Tryz.results25 (show (C4).M.loc 25=_ from qLL.1) rfl rfl (by kernel_rfl)]
 simp -implicitDefEqProofs -dsimp +contextual (maxSteps:=9999999) (disch:=first | omega | simp only [go_sem]<;>omega | refine ib ?_;kernel_rfl) only [go_sem,seval,↓reduceIte]
 refine qtU n id (h.md.le (by omega)) _ ?_ _ _ ?_ ?_
 ·intro o ho;repeat (first | rfl | rw [qac.set_ne _ _ (by omega)])
 ·intro i H' hi hc W F hfr
  rw [qhA hi hc]
  have hid:=qtX hi hc
  have row:=qa8 n.jobs i hi
  have b5:H' 105=⟨1,.live,11,[[.int .i64 m.kind,.int .i64 m.rid,.int .i64 m.ver,.int .i64 m.err,.int .u64 (m.id:Int),.bool m.has,.bool m.gone,.str m.key,.str m.val,.slice 6 (m.ents.map En.cs),.slice 4 (m.items.map It.cs)]],false⟩:=(hfr 105 (by omega)).trans rfl
  by_cases hp:n.jobs[i].phase=2
  ·rw [if_pos hp]
   have hp':=eq_true hp
   have W0:=W
   obtain ⟨W1,W2,W3,W4,W5,W6,W7⟩:=W0
   unfold qlA
   by_cases he:m.err=40∨m.err=41
   ·rw [if_pos he]
    have ag:=qls n id m.err i hi hid h
    rcases he with he | he
    all_goals
     simp -implicitDefEqProofs -dsimp +contextual (maxSteps:=9999999) (disch:=first | omega | simp only [go_sem]<;>omega | refine ib ?_;kernel_rfl) only [go_sem,seval,↓reduceIte,W1,W6,row,hi,hp',b5,he]
     rw [←he]
     refine ag _ W F _ _ fun H2 hE hfr2=>?_
     obtain ⟨a,b,c,d,ga,gb,gc,gd,J,X,F',A1,A2,A3,A4,Y1,Y2,Y3,Y4,Y5,hX⟩:=hE
     have g4:(H2 106).gen=1:=by rw [hfr2 106 (by omega),hfr 106 (by omega)];rfl
     have m4:(H2 106).mode= .live:=by rw [hfr2 106 (by omega),hfr 106 (by omega)];rfl
     obtain ⟨r,hr,H4r⟩:∃r:List AVal,r.length=22∧(H2 106).rows=[r]:=by rw [hfr2 106 (by omega),hfr 106 (by omega)];exact ⟨_,rfl,rfl⟩
     generalize qc0 n i id m.err=q at *
     obtain ⟨m',acts⟩:=q
     try simp only at Y1 Y2 Y3 Y4 Y5 hX
     have na:(a=120102)=False:=eq_false (by omega);have nb:(b=120102)=False:=eq_false (by omega);have nc:(c=120102)=False:=eq_false (by omega);have nd:(d=120102)=False:=eq_false (by omega)
     have na':(a=106)=False:=eq_false (by omega);have nb':(b=106)=False:=eq_false (by omega);have nc':(c=106)=False:=eq_false (by omega);have nd':(d=106)=False:=eq_false (by omega)
     rcases hX with ⟨rfl,rfl⟩|⟨x,gx,rfl,hx1,hx2,hX⟩
     ·simp -implicitDefEqProofs -dsimp +contextual (maxSteps:=9999999) (disch:=first | omega | simp only [go_sem]<;>omega | refine ib ?_;kernel_rfl) only [go_sem,seval,↓reduceIte]
      rw [qag (C:=C4) Tryz.func71 rfl Tryz.results71 (show (C4).M.loc 71=_ from qgu.1) (by kernel_rfl)]
      simp -implicitDefEqProofs -dsimp +contextual (maxSteps:=9999999) (disch:=first | omega | simp only [go_sem]<;>omega | refine ib ?_;kernel_rfl) only [go_sem,seval,↓reduceIte,Y1,Y2,Y3,Y4,Y5,g4,m4,hr,H4r,na,nb,nc,nd,na',nb',nc',nd']
     ·have nx:(x=120102)=False:=eq_false (by omega);have nx':(x=106)=False:=eq_false (by omega)
      simp -implicitDefEqProofs -dsimp +contextual (maxSteps:=9999999) (disch:=first | omega | simp only [go_sem]<;>omega | refine ib ?_;kernel_rfl) only [go_sem,seval,↓reduceIte]
      rw [qag (C:=C4) Tryz.func71 rfl Tryz.results71 (show (C4).M.loc 71=_ from qgu.1) (by kernel_rfl)]
      simp -implicitDefEqProofs -dsimp +contextual (maxSteps:=9999999) (disch:=first | omega | simp only [go_sem]<;>omega | refine ib ?_;kernel_rfl) only [go_sem,seval,↓reduceIte,Y1,Y2,Y3,Y4,Y5,g4,m4,hr,H4r,na,nb,nc,nd,na',nb',nc',nd',nx,nx',hX]
   ·rw [if_neg he]
    have he1:=eq_false (fun h'=>he (.inl h'))
    have he2:=eq_false (fun h'=>he (.inr h'))
    by_cases h0:m.err=0
    ·rw [if_pos h0]
     have rs:=qqL n id i hi m
     have st:=qfS n id i hi hid (h.md.le (by omega)) (qrm n.jobs[i] m).1 (qrm n.jobs[i] m).2 0
     have h0':=eq_true h0
     simp -implicitDefEqProofs -dsimp +contextual (maxSteps:=9999999) (disch:=first | omega | simp only [go_sem]<;>omega | refine ib ?_;kernel_rfl) only [go_sem,seval,↓reduceIte,W1,W6,row,hi,hp',b5,he1,he2,h0']
     refine rs _ W (F.fre _ (by omega) (by omega)) _ _ fun H3 hfr3=>?_
     have hfr':=fun o (ho:o<60000)=>(hfr3 o (by omega)).trans (hfr o ho)
     have g10:=(hfr3 110 (by omega)).trans (hfr 110 (by omega))
     generalize (qrm n.jobs[i] m).1=x at *
     generalize (qrm n.jobs[i] m).2=hs at *
     simp -implicitDefEqProofs -dsimp +contextual (maxSteps:=9999999) (disch:=first | omega | simp only [go_sem]<;>omega | refine ib ?_;kernel_rfl) only [go_sem,seval,↓reduceIte]
     refine st _ (W.far ?_) ?_ _ _ fun H2 hE hfr2=>?_
     ·intro o ho;exact (qac.set_ne _ _ (by omega)).trans (hfr3 o (by omega))
     ·intro o ho;exact (qac.set_ne _ _ (by omega)).trans <| (hfr3 o (by omega)).trans (F o (by omega) (by omega))
     obtain ⟨a,b,c,d,ga,gb,gc,gd,J,X,F',A1,A2,A3,A4,Y1,Y2,Y3,Y4,Y5,hX⟩:=hE
     have g4:(H2 106).gen=1:=by rw [hfr2 106 (by omega),qac.set_ne _ _ (by omega),hfr' 106 (by omega)];rfl
     have m4:(H2 106).mode= .live:=by rw [hfr2 106 (by omega),qac.set_ne _ _ (by omega),hfr' 106 (by omega)];rfl
     obtain ⟨r,hr,H4r⟩:∃r:List AVal,r.length=22∧(H2 106).rows=[r]:=by rw [hfr2 106 (by omega),qac.set_ne _ _ (by omega),hfr' 106 (by omega)];exact ⟨_,rfl,rfl⟩
     generalize qax n id x hs 0=m' at *
     try simp only at Y1 Y2 Y3 Y4 Y5 hX
     have na:(a=120102)=False:=eq_false (by omega);have nb:(b=120102)=False:=eq_false (by omega);have nc:(c=120102)=False:=eq_false (by omega);have nd:(d=120102)=False:=eq_false (by omega)
     have na':(a=106)=False:=eq_false (by omega);have nb':(b=106)=False:=eq_false (by omega);have nc':(c=106)=False:=eq_false (by omega);have nd':(d=106)=False:=eq_false (by omega)
     rcases hX with ⟨rfl,_⟩|⟨x,gx,rfl,hx1,hx2,hX⟩
     ·simp -implicitDefEqProofs -dsimp +contextual (maxSteps:=9999999) (disch:=first | omega | simp only [go_sem]<;>omega | refine ib ?_;kernel_rfl) only [go_sem,seval,↓reduceIte]
      rw [qag (C:=C4) Tryz.func71 rfl Tryz.results71 (show (C4).M.loc 71=_ from qgu.1) (by kernel_rfl)]
      simp -implicitDefEqProofs -dsimp +contextual (maxSteps:=9999999) (disch:=first | omega | simp only [go_sem]<;>omega | refine ib ?_;kernel_rfl) only [go_sem,seval,↓reduceIte,Y1,Y2,Y3,Y4,Y5,g4,m4,hr,H4r,na,nb,nc,nd,na',nb',nc',nd']
     ·have nx:(x=120102)=False:=eq_false (by omega);have nx':(x=106)=False:=eq_false (by omega)
      simp -implicitDefEqProofs -dsimp +contextual (maxSteps:=9999999) (disch:=first | omega | simp only [go_sem]<;>omega | refine ib ?_;kernel_rfl) only [go_sem,seval,↓reduceIte]
      rw [qag (C:=C4) Tryz.func71 rfl Tryz.results71 (show (C4).M.loc 71=_ from qgu.1) (by kernel_rfl)]
      simp -implicitDefEqProofs -dsimp +contextual (maxSteps:=9999999) (disch:=first | omega | simp only [go_sem]<;>omega | refine ib ?_;kernel_rfl) only [go_sem,seval,↓reduceIte,Y1,Y2,Y3,Y4,Y5,g4,m4,hr,H4r,na,nb,nc,nd,na',nb',nc',nd',nx,nx',hX]
    ·rw [if_neg h0]
     have h0':=eq_false h0
     have fl:=qjA n id i hi hid (h.md.le (by omega)) m.err
     simp -implicitDefEqProofs -dsimp +contextual (maxSteps:=9999999) (disch:=first | omega | simp only [go_sem]<;>omega | refine ib ?_;kernel_rfl) only [go_sem,seval,↓reduceIte,W1,W6,row,hi,hp',b5,he1,he2,h0']
     refine fl _ W (F.fre _ (by omega) (by omega)) _ _ fun H2 hE hfr2=>?_
     obtain ⟨a,b,c,d,ga,gb,gc,gd,J,X,F',A1,A2,A3,A4,Y1,Y2,Y3,Y4,Y5,hX⟩:=hE
     have g4:(H2 106).gen=1:=by rw [hfr2 106 (by omega),hfr 106 (by omega)];rfl
     have m4:(H2 106).mode= .live:=by rw [hfr2 106 (by omega),hfr 106 (by omega)];rfl
     obtain ⟨r,hr,H4r⟩:∃r:List AVal,r.length=22∧(H2 106).rows=[r]:=by rw [hfr2 106 (by omega),hfr 106 (by omega)];exact ⟨_,rfl,rfl⟩
     generalize qdc n id m.err=q at *
     obtain ⟨m',acts⟩:=q
     try simp only at Y1 Y2 Y3 Y4 Y5 hX
     have na:(a=120102)=False:=eq_false (by omega);have nb:(b=120102)=False:=eq_false (by omega);have nc:(c=120102)=False:=eq_false (by omega);have nd:(d=120102)=False:=eq_false (by omega)
     have na':(a=106)=False:=eq_false (by omega);have nb':(b=106)=False:=eq_false (by omega);have nc':(c=106)=False:=eq_false (by omega);have nd':(d=106)=False:=eq_false (by omega)
     rcases hX with ⟨rfl,rfl⟩|⟨x,gx,rfl,hx1,hx2,hX⟩
     ·simp -implicitDefEqProofs -dsimp +contextual (maxSteps:=9999999) (disch:=first | omega | simp only [go_sem]<;>omega | refine ib ?_;kernel_rfl) only [go_sem,seval,↓reduceIte]
      rw [qag (C:=C4) Tryz.func71 rfl Tryz.results71 (show (C4).M.loc 71=_ from qgu.1) (by kernel_rfl)]
      simp -implicitDefEqProofs -dsimp +contextual (maxSteps:=9999999) (disch:=first | omega | simp only [go_sem]<;>omega | refine ib ?_;kernel_rfl) only [go_sem,seval,↓reduceIte,Y1,Y2,Y3,Y4,Y5,g4,m4,hr,H4r,na,nb,nc,nd,na',nb',nc',nd']
     ·have nx:(x=120102)=False:=eq_false (by omega);have nx':(x=106)=False:=eq_false (by omega)
      simp -implicitDefEqProofs -dsimp +contextual (maxSteps:=9999999) (disch:=first | omega | simp only [go_sem]<;>omega | refine ib ?_;kernel_rfl) only [go_sem,seval,↓reduceIte]
      rw [qag (C:=C4) Tryz.func71 rfl Tryz.results71 (show (C4).M.loc 71=_ from qgu.1) (by kernel_rfl)]
      simp -implicitDefEqProofs -dsimp +contextual (maxSteps:=9999999) (disch:=first | omega | simp only [go_sem]<;>omega | refine ib ?_;kernel_rfl) only [go_sem,seval,↓reduceIte,Y1,Y2,Y3,Y4,Y5,g4,m4,hr,H4r,na,nb,nc,nd,na',nb',nc',nd',nx,nx',hX]
  ·rw [if_neg hp]
   have hp':=eq_false hp
   have W0:=W
   obtain ⟨W1,W2,W3,W4,W5,W6,W7⟩:=W0
   simp -implicitDefEqProofs -dsimp +contextual (maxSteps:=9999999) (disch:=first | omega | simp only [go_sem]<;>omega | refine ib ?_;kernel_rfl) only [go_sem,seval,↓reduceIte,W1,W6,row,hi,hp']
   obtain ⟨Y1,W2,W3,Y2,Y3,Y4,Y5⟩:=W
   have f1:=F 120102 (by omega) (by omega)
   have g4:(H' 106).gen=1:=by rw [hfr 106 (by omega)];rfl
   have m4:(H' 106).mode= .live:=by rw [hfr 106 (by omega)];rfl
   obtain ⟨r,hr,H4r⟩:∃r:List AVal,r.length=22∧(H' 106).rows=[r]:=by rw [hfr 106 (by omega)];exact ⟨_,rfl,rfl⟩
   try simp -implicitDefEqProofs -dsimp +contextual (maxSteps:=9999999) (disch:=first | omega | simp only [go_sem]<;>omega | refine ib ?_;kernel_rfl) only [go_sem,seval,↓reduceIte]
   rw [qag (C:=C4) Tryz.func71 rfl Tryz.results71 (show (C4).M.loc 71=_ from qgu.1) (by kernel_rfl)]
   simp -implicitDefEqProofs -dsimp +contextual (maxSteps:=9999999) (disch:=first | omega | simp only [go_sem]<;>omega | refine ib ?_;kernel_rfl) only [go_sem,seval,↓reduceIte,Y1,Y2,Y3,Y4,Y5,g4,m4,hr,H4r]
 ·intro H' hc W F hfr
  rw [qeP hc]
  obtain ⟨Y1,W2,W3,Y2,Y3,Y4,Y5⟩:=W
  have f1:=F 120102 (by omega) (by omega)
  have g4:(H' 106).gen=1:=by rw [hfr 106 (by omega)];rfl
  have m4:(H' 106).mode= .live:=by rw [hfr 106 (by omega)];rfl
  obtain ⟨r,hr,H4r⟩:∃r:List AVal,r.length=22∧(H' 106).rows=[r]:=by rw [hfr 106 (by omega)];exact ⟨_,rfl,rfl⟩
  try simp -implicitDefEqProofs -dsimp +contextual (maxSteps:=9999999) (disch:=first | omega | simp only [go_sem]<;>omega | refine ib ?_;kernel_rfl) only [go_sem,seval,↓reduceIte]
  rw [qag (C:=C4) Tryz.func71 rfl Tryz.results71 (show (C4).M.loc 71=_ from qgu.1) (by kernel_rfl)]
  simp -implicitDefEqProofs -dsimp +contextual (maxSteps:=9999999) (disch:=first | omega | simp only [go_sem]<;>omega | refine ib ?_;kernel_rfl) only [go_sem,seval,↓reduceIte,Y1,Y2,Y3,Y4,Y5,g4,m4,hr,H4r]
theorem qHL (n:Nd) (id:Int) (from_ owner:En) (h:CliK n) (hf:from_.id≤18446744073709551615) (ho1:owner.ok) (ho2:owner.name.length≤10000) (ho3:owner.tag.length≤10000) (hgk:n.gateK.length≤10000):fn C4 23 [] [(aNd n),.int .i64 id,.agg [.str from_.name,.int .u64 (from_.id:Int),.int .i64 from_.fr,.int .i64 from_.un,.int .i64 from_.ix,.str from_.tag],.agg [.str owner.name,.int .u64 (owner.id:Int),.int .i64 owner.fr,.int .i64 owner.un,.int .i64 owner.ix,.str owner.tag]]=some (.tup [.agg (qc2 n id from_ owner).1.cs,.slice 20 ((qc2 n id from_ owner).2.map Ac.cs)],[]):=by
 rw [qaa (C:=C4) Tryz.func23 rfl rfl Tryz.results23 (show (C4).M.loc 23=_ from qLK.1) rfl rfl (by kernel_rfl)]
 simp -implicitDefEqProofs -dsimp +contextual (maxSteps:=9999999) (disch:=first | omega | simp only [go_sem]<;>omega | refine ib ?_;kernel_rfl) only [go_sem,seval,↓reduceIte]
 refine qtU n id (h.md.le (by omega)) _ ?_ _ _ ?_ ?_
 ·intro o ho;repeat (first | rfl | rw [qac.set_ne _ _ (by omega)])
 ·intro i H' hi hc W F hfr
  rw [qhB hi hc]
  have hid:=qtX hi hc
  have row:=qa8 n.jobs i hi
  have hrow:=fun J=>qlr n.jobs i J hi
  have b6:H' 106=⟨1,.live,6,[[.str from_.name,.int .u64 (from_.id:Int),.int .i64 from_.fr,.int .i64 from_.un,.int .i64 from_.ix,.str from_.tag]],false⟩:=(hfr 106 (by omega)).trans rfl
  have b7:H' 107=⟨1,.live,6,[[.str owner.name,.int .u64 (owner.id:Int),.int .i64 owner.fr,.int .i64 owner.un,.int .i64 owner.ix,.str owner.tag]],false⟩:=(hfr 107 (by omega)).trans rfl
  obtain ⟨k1,k2⟩:=h.jk _ (List.getElem_mem hi)
  have w1:=e88 from_ n.jobs[i].owner
  have w2:=e88 owner from_
  have pl:=fun c0 c1 c2 c3 c4 c5 c6 c7 c8 c9 c10 c11 c12 c13 c14 c15 c16 c17 c18 c19 c20 c21 r0 r1 r2 r3 r4 r5 r7 r8 r9 r10 r11 r12 r13 r14 r15 r16 r17 r18 r19 r20 r21 r22 r23 r24 r25 r26 r27 r28 X F=>qiI c0 c1 c2 c3 c4 c5 c6 c7 c8 c9 c10 c11 c12 c13 c14 c15 c16 c17 c18 c19 c20 c21 r0 r1 r2 r3 r4 r5 r7 r8 r9 r10 r11 r12 r13 r14 r15 r16 r17 r18 r19 r20 r21 r22 r23 r24 r25 r26 r27 r28 X F n.jobs[i].key k1
  have e2:=qC2 n.me n.list (qfl n.jobs[i].key) owner (qgl _) h.me ho1.id (Nat.le_trans h.md.ll (by decide)) h.li
  have W0:=W
  obtain ⟨W1,W2,W3,W4,W5,W6,W7⟩:=W0
  have jl:=h.md.jl
  have hji:=h.ji _ (List.getElem_mem hi)
  have ac:=qC4 n id i hi hid (h.md.le (by omega)) from_
  have fl:=fun e=>qjA n id i hi hid (h.md.le (by omega)) e
  have nr:=qqK n id i hi k1 from_ owner hf ho1 ho2 ho3 hgk
  have ak:=fun H=>qtV { n with jobs:=n.jobs.set i { n.jobs[i]with hops:=n.jobs[i].hops+1 } } id i (by simpa using hi) (by simpa using hid) ((qfm i n.jobs[i] { n.jobs[i]with hops:=n.jobs[i].hops+1 } h.md (List.getElem_mem hi) rfl).le (by omega)) (by simpa using k1) owner H
  by_cases hp:n.jobs[i].phase=1
  ·have hp':=eq_true hp
   by_cases hw:from_.name=n.jobs[i].owner.name∧from_.id=n.jobs[i].owner.id
   ·rw [if_pos ⟨hp,hw⟩]
    rw [decide_eq_true hw]at w1
    unfold qlz
    by_cases ho:owner.name=from_.name∧owner.id=from_.id
    ·rw [if_pos ho]
     rw [decide_eq_true ho]at w2
     by_cases hch:qc1 n.me n.list (qfl n.jobs[i].key) owner=0
     ·rw [if_pos hch]
      rw [hch]at e2
      have ea:((({ n with jobs:=n.jobs.set i { n.jobs[i]with phase:=2 } }:Nd),[(⟨false,from_,qzv n.jobs[i],6,id⟩:Ac)]):Nd×List Ac)=qC3 n i n.jobs[i] from_ id:=rfl
      rw [ea]
      clear ea
      generalize hj:n.jobs[i]=j at *
      simp -implicitDefEqProofs -dsimp +contextual (maxSteps:=9999999) (disch:=first | omega | simp only [go_sem]<;>omega | refine ib ?_;kernel_rfl) only [go_sem,seval,↓reduceIte,W1,W2,W3,W4,W5,W6,W7,row,hi,b6,b7,hp',w1,w2,pl,e2]
      refine ac _ W (F.fre _ (by omega) (by omega)) (F.fre _ (by omega) (by omega)) _ _ fun H2 hE hfr2=>?_
      obtain ⟨a,b,c,d,ga,gb,gc,gd,J,X,F',A1,A2,A3,A4,Y1,Y2,Y3,Y4,Y5,hX⟩:=hE
      have g4:(H2 108).gen=1:=by rw [hfr2 108 (by omega),hfr 108 (by omega)];rfl
      have m4:(H2 108).mode= .live:=by rw [hfr2 108 (by omega),hfr 108 (by omega)];rfl
      obtain ⟨r,hr,H4r⟩:∃r:List AVal,r.length=22∧(H2 108).rows=[r]:=by rw [hfr2 108 (by omega),hfr 108 (by omega)];exact ⟨_,rfl,rfl⟩
      generalize qC3 n i j from_ id=q at *
      obtain ⟨m',acts⟩:=q
      try simp only at Y1 Y2 Y3 Y4 Y5 hX
      have na:(a=120102)=False:=eq_false (by omega);have nb:(b=120102)=False:=eq_false (by omega);have nc:(c=120102)=False:=eq_false (by omega);have nd:(d=120102)=False:=eq_false (by omega)
      have na':(a=108)=False:=eq_false (by omega);have nb':(b=108)=False:=eq_false (by omega);have nc':(c=108)=False:=eq_false (by omega);have nd':(d=108)=False:=eq_false (by omega)
      rcases hX with ⟨rfl,rfl⟩|⟨x,gx,rfl,hx1,hx2,hX⟩
      ·simp -implicitDefEqProofs -dsimp +contextual (maxSteps:=9999999) (disch:=first | omega | simp only [go_sem]<;>omega | refine ib ?_;kernel_rfl) only [go_sem,seval,↓reduceIte]
       rw [qag (C:=C4) Tryz.func71 rfl Tryz.results71 (show (C4).M.loc 71=_ from qgu.1) (by kernel_rfl)]
       simp -implicitDefEqProofs -dsimp +contextual (maxSteps:=9999999) (disch:=first | omega | simp only [go_sem]<;>omega | refine ib ?_;kernel_rfl) only [go_sem,seval,↓reduceIte,Y1,Y2,Y3,Y4,Y5,g4,m4,hr,H4r,na,nb,nc,nd,na',nb',nc',nd']
      ·have nx:(x=120102)=False:=eq_false (by omega);have nx':(x=108)=False:=eq_false (by omega)
       simp -implicitDefEqProofs -dsimp +contextual (maxSteps:=9999999) (disch:=first | omega | simp only [go_sem]<;>omega | refine ib ?_;kernel_rfl) only [go_sem,seval,↓reduceIte]
       rw [qag (C:=C4) Tryz.func71 rfl Tryz.results71 (show (C4).M.loc 71=_ from qgu.1) (by kernel_rfl)]
       simp -implicitDefEqProofs -dsimp +contextual (maxSteps:=9999999) (disch:=first | omega | simp only [go_sem]<;>omega | refine ib ?_;kernel_rfl) only [go_sem,seval,↓reduceIte,Y1,Y2,Y3,Y4,Y5,g4,m4,hr,H4r,na,nb,nc,nd,na',nb',nc',nd',nx,nx',hX]
     ·rw [if_neg hch]
      have h42:qc1 n.me n.list (qfl n.jobs[i].key) owner=42:=by
       unfold qc1 at hch ⊢
       split
       ·rename_i h0;exact absurd (if_pos h0) hch
       ·rename_i h0
        rw [if_neg h0]at hch
        split
        ·rfl
        ·rename_i h1;exact absurd (if_neg h1) hch
      rw [h42]at e2
      generalize hj:n.jobs[i]=j at *
      simp -implicitDefEqProofs -dsimp +contextual (maxSteps:=9999999) (disch:=first | omega | simp only [go_sem]<;>omega | refine ib ?_;kernel_rfl) only [go_sem,seval,↓reduceIte,W1,W2,W3,W4,W5,W6,W7,row,hi,b6,b7,hp',w1,w2,pl,e2]
      refine fl _ _ W (F.fre _ (by omega) (by omega)) _ _ fun H2 hE hfr2=>?_
      obtain ⟨a,b,c,d,ga,gb,gc,gd,J,X,F',A1,A2,A3,A4,Y1,Y2,Y3,Y4,Y5,hX⟩:=hE
      have g4:(H2 108).gen=1:=by rw [hfr2 108 (by omega),hfr 108 (by omega)];rfl
      have m4:(H2 108).mode= .live:=by rw [hfr2 108 (by omega),hfr 108 (by omega)];rfl
      obtain ⟨r,hr,H4r⟩:∃r:List AVal,r.length=22∧(H2 108).rows=[r]:=by rw [hfr2 108 (by omega),hfr 108 (by omega)];exact ⟨_,rfl,rfl⟩
      generalize qdc n id 42=q at *
      obtain ⟨m',acts⟩:=q
      try simp only at Y1 Y2 Y3 Y4 Y5 hX
      have na:(a=120102)=False:=eq_false (by omega);have nb:(b=120102)=False:=eq_false (by omega);have nc:(c=120102)=False:=eq_false (by omega);have nd:(d=120102)=False:=eq_false (by omega)
      have na':(a=108)=False:=eq_false (by omega);have nb':(b=108)=False:=eq_false (by omega);have nc':(c=108)=False:=eq_false (by omega);have nd':(d=108)=False:=eq_false (by omega)
      rcases hX with ⟨rfl,rfl⟩|⟨x,gx,rfl,hx1,hx2,hX⟩
      ·simp -implicitDefEqProofs -dsimp +contextual (maxSteps:=9999999) (disch:=first | omega | simp only [go_sem]<;>omega | refine ib ?_;kernel_rfl) only [go_sem,seval,↓reduceIte]
       rw [qag (C:=C4) Tryz.func71 rfl Tryz.results71 (show (C4).M.loc 71=_ from qgu.1) (by kernel_rfl)]
       simp -implicitDefEqProofs -dsimp +contextual (maxSteps:=9999999) (disch:=first | omega | simp only [go_sem]<;>omega | refine ib ?_;kernel_rfl) only [go_sem,seval,↓reduceIte,Y1,Y2,Y3,Y4,Y5,g4,m4,hr,H4r,na,nb,nc,nd,na',nb',nc',nd']
      ·have nx:(x=120102)=False:=eq_false (by omega);have nx':(x=108)=False:=eq_false (by omega)
       simp -implicitDefEqProofs -dsimp +contextual (maxSteps:=9999999) (disch:=first | omega | simp only [go_sem]<;>omega | refine ib ?_;kernel_rfl) only [go_sem,seval,↓reduceIte]
       rw [qag (C:=C4) Tryz.func71 rfl Tryz.results71 (show (C4).M.loc 71=_ from qgu.1) (by kernel_rfl)]
       simp -implicitDefEqProofs -dsimp +contextual (maxSteps:=9999999) (disch:=first | omega | simp only [go_sem]<;>omega | refine ib ?_;kernel_rfl) only [go_sem,seval,↓reduceIte,Y1,Y2,Y3,Y4,Y5,g4,m4,hr,H4r,na,nb,nc,nd,na',nb',nc',nd',nx,nx',hX]
    ·rw [if_neg ho]
     rw [decide_eq_false ho]at w2
     by_cases h64:64≤n.jobs[i].hops
     ·rw [if_pos h64]
      generalize hj:n.jobs[i]=j at *
      simp -implicitDefEqProofs -dsimp +contextual (maxSteps:=9999999) (disch:=first | omega | simp only [go_sem]<;>omega | refine ib ?_;kernel_rfl) only [go_sem,seval,↓reduceIte,W1,W2,W3,W4,W5,W6,W7,row,hi,b6,b7,hp',w1,w2,h64]
      refine fl _ _ W (F.fre _ (by omega) (by omega)) _ _ fun H2 hE hfr2=>?_
      obtain ⟨a,b,c,d,ga,gb,gc,gd,J,X,F',A1,A2,A3,A4,Y1,Y2,Y3,Y4,Y5,hX⟩:=hE
      have g4:(H2 108).gen=1:=by rw [hfr2 108 (by omega),hfr 108 (by omega)];rfl
      have m4:(H2 108).mode= .live:=by rw [hfr2 108 (by omega),hfr 108 (by omega)];rfl
      obtain ⟨r,hr,H4r⟩:∃r:List AVal,r.length=22∧(H2 108).rows=[r]:=by rw [hfr2 108 (by omega),hfr 108 (by omega)];exact ⟨_,rfl,rfl⟩
      generalize qdc n id 44=q at *
      obtain ⟨m',acts⟩:=q
      try simp only at Y1 Y2 Y3 Y4 Y5 hX
      have na:(a=120102)=False:=eq_false (by omega);have nb:(b=120102)=False:=eq_false (by omega);have nc:(c=120102)=False:=eq_false (by omega);have nd:(d=120102)=False:=eq_false (by omega)
      have na':(a=108)=False:=eq_false (by omega);have nb':(b=108)=False:=eq_false (by omega);have nc':(c=108)=False:=eq_false (by omega);have nd':(d=108)=False:=eq_false (by omega)
      rcases hX with ⟨rfl,rfl⟩|⟨x,gx,rfl,hx1,hx2,hX⟩
      ·simp -implicitDefEqProofs -dsimp +contextual (maxSteps:=9999999) (disch:=first | omega | simp only [go_sem]<;>omega | refine ib ?_;kernel_rfl) only [go_sem,seval,↓reduceIte]
       rw [qag (C:=C4) Tryz.func71 rfl Tryz.results71 (show (C4).M.loc 71=_ from qgu.1) (by kernel_rfl)]
       simp -implicitDefEqProofs -dsimp +contextual (maxSteps:=9999999) (disch:=first | omega | simp only [go_sem]<;>omega | refine ib ?_;kernel_rfl) only [go_sem,seval,↓reduceIte,Y1,Y2,Y3,Y4,Y5,g4,m4,hr,H4r,na,nb,nc,nd,na',nb',nc',nd']
      ·have nx:(x=120102)=False:=eq_false (by omega);have nx':(x=108)=False:=eq_false (by omega)
       simp -implicitDefEqProofs -dsimp +contextual (maxSteps:=9999999) (disch:=first | omega | simp only [go_sem]<;>omega | refine ib ?_;kernel_rfl) only [go_sem,seval,↓reduceIte]
       rw [qag (C:=C4) Tryz.func71 rfl Tryz.results71 (show (C4).M.loc 71=_ from qgu.1) (by kernel_rfl)]
       simp -implicitDefEqProofs -dsimp +contextual (maxSteps:=9999999) (disch:=first | omega | simp only [go_sem]<;>omega | refine ib ?_;kernel_rfl) only [go_sem,seval,↓reduceIte,Y1,Y2,Y3,Y4,Y5,g4,m4,hr,H4r,na,nb,nc,nd,na',nb',nc',nd',nx,nx',hX]
     ·rw [if_neg h64]
      have h64':=eq_false h64
      generalize hj:n.jobs[i]=j at *
      simp -implicitDefEqProofs -dsimp +contextual (maxSteps:=9999999) (disch:=first | omega | simp only [go_sem]<;>omega | refine ib ?_;kernel_rfl) only [go_sem,seval,↓reduceIte,W1,W2,W3,W4,W5,W6,W7,row,hi,b6,b7,hp',w1,w2,h64']
      refine nr _ W (F.fre _ (by omega) (by omega)) _ _ fun H3 hfr3=>?_
      have hfr':=fun o (ho:o<60000)=>(hfr3 o (by omega)).trans (hfr o ho)
      have W':WorkC H3 n id (.ptr 60109018 1 i 0):=W.far fun o ho=>hfr3 o (by omega)
      have F':∀lo,80000≤lo→lo≤220000→qu1 H3 lo:=fun lo l1 l2 o ho=>(hfr3 o (by omega)).trans (F o (by omega) (by omega))
      by_cases hfar:qHD n (qfl j.key) from_ owner=true
      ·rw [if_pos hfar]
       rw [hfar]
       simp -implicitDefEqProofs -dsimp +contextual (maxSteps:=9999999) (disch:=first | omega | simp only [go_sem]<;>omega | refine ib ?_;kernel_rfl) only [go_sem,seval,↓reduceIte]
       refine fl _ _ W' (F' _ (by omega) (by omega)) _ _ fun H2 hE hfr2=>?_
       obtain ⟨a,b,c,d,ga,gb,gc,gd,J,X,F',A1,A2,A3,A4,Y1,Y2,Y3,Y4,Y5,hX⟩:=hE
       have g4:(H2 108).gen=1:=by rw [hfr2 108 (by omega),hfr' 108 (by omega)];rfl
       have m4:(H2 108).mode= .live:=by rw [hfr2 108 (by omega),hfr' 108 (by omega)];rfl
       obtain ⟨r,hr,H4r⟩:∃r:List AVal,r.length=22∧(H2 108).rows=[r]:=by rw [hfr2 108 (by omega),hfr' 108 (by omega)];exact ⟨_,rfl,rfl⟩
       generalize qdc n id 42=q at *
       obtain ⟨m',acts⟩:=q
       try simp only at Y1 Y2 Y3 Y4 Y5 hX
       have na:(a=120102)=False:=eq_false (by omega);have nb:(b=120102)=False:=eq_false (by omega);have nc:(c=120102)=False:=eq_false (by omega);have nd:(d=120102)=False:=eq_false (by omega)
       have na':(a=108)=False:=eq_false (by omega);have nb':(b=108)=False:=eq_false (by omega);have nc':(c=108)=False:=eq_false (by omega);have nd':(d=108)=False:=eq_false (by omega)
       rcases hX with ⟨rfl,rfl⟩|⟨x,gx,rfl,hx1,hx2,hX⟩
       ·simp -implicitDefEqProofs -dsimp +contextual (maxSteps:=9999999) (disch:=first | omega | simp only [go_sem]<;>omega | refine ib ?_;kernel_rfl) only [go_sem,seval,↓reduceIte]
        rw [qag (C:=C4) Tryz.func71 rfl Tryz.results71 (show (C4).M.loc 71=_ from qgu.1) (by kernel_rfl)]
        simp -implicitDefEqProofs -dsimp +contextual (maxSteps:=9999999) (disch:=first | omega | simp only [go_sem]<;>omega | refine ib ?_;kernel_rfl) only [go_sem,seval,↓reduceIte,Y1,Y2,Y3,Y4,Y5,g4,m4,hr,H4r,na,nb,nc,nd,na',nb',nc',nd']
       ·have nx:(x=120102)=False:=eq_false (by omega);have nx':(x=108)=False:=eq_false (by omega)
        simp -implicitDefEqProofs -dsimp +contextual (maxSteps:=9999999) (disch:=first | omega | simp only [go_sem]<;>omega | refine ib ?_;kernel_rfl) only [go_sem,seval,↓reduceIte]
        rw [qag (C:=C4) Tryz.func71 rfl Tryz.results71 (show (C4).M.loc 71=_ from qgu.1) (by kernel_rfl)]
        simp -implicitDefEqProofs -dsimp +contextual (maxSteps:=9999999) (disch:=first | omega | simp only [go_sem]<;>omega | refine ib ?_;kernel_rfl) only [go_sem,seval,↓reduceIte,Y1,Y2,Y3,Y4,Y5,g4,m4,hr,H4r,na,nb,nc,nd,na',nb',nc',nd',nx,nx',hX]
      ·rw [if_neg hfar]
       rw [Bool.eq_false_iff.2 hfar]
       have c7:H3 107=⟨1,.live,6,[[.str owner.name,.int .u64 (owner.id:Int),.int .i64 owner.fr,.int .i64 owner.un,.int .i64 owner.ix,.str owner.tag]],false⟩:=(hfr3 107 (by omega)).trans b7
       have W0:=W'
       obtain ⟨V1,V2,V3,V4,V5,V6,V7⟩:=W0
       simp -implicitDefEqProofs -dsimp +contextual (maxSteps:=9999999) (disch:=first | omega | simp only [go_sem]<;>omega | refine ib ?_;kernel_rfl) only [go_sem,seval,↓reduceIte,V1,V2,V3,V4,V5,V6,V7,row,hi,c7,qbS,hrow]
       refine ak _ (W'.set i _ ?_ ?_) ?_ ?_ _ _ fun H2 hE hfr2=>?_
       ·rfl
       ·intro o ho;exact qac.set_ne _ _ ho
       ·intro o ho;rw [qac.set_ne _ _ (by omega)];exact F' _ (by omega) (by omega) o ho
       ·intro o ho;rw [qac.set_ne _ _ (by omega)];exact F' _ (by omega) (by omega) o ho
       have hE:qzz (qri n i { j with hops:=j.hops+1 } owner id) H2:=by
        have:=hE
        simp only [aNd,qri,List.getElem_set_self,List.set_set]at this
        exact this
       obtain ⟨a,b,c,d,ga,gb,gc,gd,J,X,F',A1,A2,A3,A4,Y1,Y2,Y3,Y4,Y5,hX⟩:=hE
       have g4:(H2 108).gen=1:=by rw [hfr2 108 (by omega),qac.set_ne _ _ (by omega),hfr' 108 (by omega)];rfl
       have m4:(H2 108).mode= .live:=by rw [hfr2 108 (by omega),qac.set_ne _ _ (by omega),hfr' 108 (by omega)];rfl
       obtain ⟨r,hr,H4r⟩:∃r:List AVal,r.length=22∧(H2 108).rows=[r]:=by rw [hfr2 108 (by omega),qac.set_ne _ _ (by omega),hfr' 108 (by omega)];exact ⟨_,rfl,rfl⟩
       generalize qri n i { j with hops:=j.hops+1 } owner id=q at *
       obtain ⟨m',acts⟩:=q
       try simp only at Y1 Y2 Y3 Y4 Y5 hX
       have na:(a=120102)=False:=eq_false (by omega);have nb:(b=120102)=False:=eq_false (by omega);have nc:(c=120102)=False:=eq_false (by omega);have nd:(d=120102)=False:=eq_false (by omega)
       have na':(a=108)=False:=eq_false (by omega);have nb':(b=108)=False:=eq_false (by omega);have nc':(c=108)=False:=eq_false (by omega);have nd':(d=108)=False:=eq_false (by omega)
       rcases hX with ⟨rfl,rfl⟩|⟨x,gx,rfl,hx1,hx2,hX⟩
       ·simp -implicitDefEqProofs -dsimp +contextual (maxSteps:=9999999) (disch:=first | omega | simp only [go_sem]<;>omega | refine ib ?_;kernel_rfl) only [go_sem,seval,↓reduceIte]
        rw [qag (C:=C4) Tryz.func71 rfl Tryz.results71 (show (C4).M.loc 71=_ from qgu.1) (by kernel_rfl)]
        simp -implicitDefEqProofs -dsimp +contextual (maxSteps:=9999999) (disch:=first | omega | simp only [go_sem]<;>omega | refine ib ?_;kernel_rfl) only [go_sem,seval,↓reduceIte,Y1,Y2,Y3,Y4,Y5,g4,m4,hr,H4r,na,nb,nc,nd,na',nb',nc',nd']
       ·have nx:(x=120102)=False:=eq_false (by omega);have nx':(x=108)=False:=eq_false (by omega)
        simp -implicitDefEqProofs -dsimp +contextual (maxSteps:=9999999) (disch:=first | omega | simp only [go_sem]<;>omega | refine ib ?_;kernel_rfl) only [go_sem,seval,↓reduceIte]
        rw [qag (C:=C4) Tryz.func71 rfl Tryz.results71 (show (C4).M.loc 71=_ from qgu.1) (by kernel_rfl)]
        simp -implicitDefEqProofs -dsimp +contextual (maxSteps:=9999999) (disch:=first | omega | simp only [go_sem]<;>omega | refine ib ?_;kernel_rfl) only [go_sem,seval,↓reduceIte,Y1,Y2,Y3,Y4,Y5,g4,m4,hr,H4r,na,nb,nc,nd,na',nb',nc',nd',nx,nx',hX]
   ·rw [if_neg (fun h'=>hw h'.2)]
    rw [decide_eq_false hw]at w1
    generalize hj:n.jobs[i]=j at *
    simp -implicitDefEqProofs -dsimp +contextual (maxSteps:=9999999) (disch:=first | omega | simp only [go_sem]<;>omega | refine ib ?_;kernel_rfl) only [go_sem,seval,↓reduceIte,W1,W2,W3,W4,W5,W6,W7,row,hi,b6,b7,hp',w1]
    obtain ⟨Y1,W2,W3,Y2,Y3,Y4,Y5⟩:=W
    have f1:=F 120102 (by omega) (by omega)
    have g4:(H' 108).gen=1:=by rw [hfr 108 (by omega)];rfl
    have m4:(H' 108).mode= .live:=by rw [hfr 108 (by omega)];rfl
    obtain ⟨r,hr,H4r⟩:∃r:List AVal,r.length=22∧(H' 108).rows=[r]:=by rw [hfr 108 (by omega)];exact ⟨_,rfl,rfl⟩
    try simp -implicitDefEqProofs -dsimp +contextual (maxSteps:=9999999) (disch:=first | omega | simp only [go_sem]<;>omega | refine ib ?_;kernel_rfl) only [go_sem,seval,↓reduceIte]
    rw [qag (C:=C4) Tryz.func71 rfl Tryz.results71 (show (C4).M.loc 71=_ from qgu.1) (by kernel_rfl)]
    simp -implicitDefEqProofs -dsimp +contextual (maxSteps:=9999999) (disch:=first | omega | simp only [go_sem]<;>omega | refine ib ?_;kernel_rfl) only [go_sem,seval,↓reduceIte,Y1,Y2,Y3,Y4,Y5,g4,m4,hr,H4r]
  ·rw [if_neg (fun h'=>hp h'.1)]
   have hp':=eq_false hp
   generalize hj:n.jobs[i]=j at *
   simp -implicitDefEqProofs -dsimp +contextual (maxSteps:=9999999) (disch:=first | omega | simp only [go_sem]<;>omega | refine ib ?_;kernel_rfl) only [go_sem,seval,↓reduceIte,W1,W2,W3,W4,W5,W6,W7,row,hi,b6,b7,hp']
   obtain ⟨Y1,W2,W3,Y2,Y3,Y4,Y5⟩:=W
   have f1:=F 120102 (by omega) (by omega)
   have g4:(H' 108).gen=1:=by rw [hfr 108 (by omega)];rfl
   have m4:(H' 108).mode= .live:=by rw [hfr 108 (by omega)];rfl
   obtain ⟨r,hr,H4r⟩:∃r:List AVal,r.length=22∧(H' 108).rows=[r]:=by rw [hfr 108 (by omega)];exact ⟨_,rfl,rfl⟩
   try simp -implicitDefEqProofs -dsimp +contextual (maxSteps:=9999999) (disch:=first | omega | simp only [go_sem]<;>omega | refine ib ?_;kernel_rfl) only [go_sem,seval,↓reduceIte]
   rw [qag (C:=C4) Tryz.func71 rfl Tryz.results71 (show (C4).M.loc 71=_ from qgu.1) (by kernel_rfl)]
   simp -implicitDefEqProofs -dsimp +contextual (maxSteps:=9999999) (disch:=first | omega | simp only [go_sem]<;>omega | refine ib ?_;kernel_rfl) only [go_sem,seval,↓reduceIte,Y1,Y2,Y3,Y4,Y5,g4,m4,hr,H4r]
 ·intro H' hc W F hfr
  rw [qeQ hc]
  obtain ⟨Y1,W2,W3,Y2,Y3,Y4,Y5⟩:=W
  have f1:=F 120102 (by omega) (by omega)
  have g4:(H' 108).gen=1:=by rw [hfr 108 (by omega)];rfl
  have m4:(H' 108).mode= .live:=by rw [hfr 108 (by omega)];rfl
  obtain ⟨r,hr,H4r⟩:∃r:List AVal,r.length=22∧(H' 108).rows=[r]:=by rw [hfr 108 (by omega)];exact ⟨_,rfl,rfl⟩
  try simp -implicitDefEqProofs -dsimp +contextual (maxSteps:=9999999) (disch:=first | omega | simp only [go_sem]<;>omega | refine ib ?_;kernel_rfl) only [go_sem,seval,↓reduceIte]
  rw [qag (C:=C4) Tryz.func71 rfl Tryz.results71 (show (C4).M.loc 71=_ from qgu.1) (by kernel_rfl)]
  simp -implicitDefEqProofs -dsimp +contextual (maxSteps:=9999999) (disch:=first | omega | simp only [go_sem]<;>omega | refine ib ?_;kernel_rfl) only [go_sem,seval,↓reduceIte,Y1,Y2,Y3,Y4,Y5,g4,m4,hr,H4r]
end Go.Proofs.YtnpkhdjgedeppaaGreatDoor
namespace Go.Proofs.YtnpkhdjgedeppaaGreatDoor
set_option maxHeartbeats 64000000
open Go.Am
set_option linter.unusedSimpArgs false
set_option linter.unusedVariables false
set_option maxRecDepth 100000
end Go.Proofs.YtnpkhdjgedeppaaGreatDoor
namespace Go.Proofs.YtnpkhdjgedeppaaGreatDoor
set_option maxHeartbeats 64000000
open Go.Am
set_option linter.unusedSimpArgs false
set_option linter.unusedVariables false
set_option maxRecDepth 100000
attribute [local irreducible] qaC idB qdL
structure AloneOk (n:Nd) (key val:List UInt8):Prop where
 l:n.list=[]
 j:n.jobs=[]
 r:n.ready=true
 k:qzT key=true
 v:val.length≤32
 room:(qdI n.items key).2=true∨n.items.length<16
 n0:0≤(qdI n.items key).1.n
 n1:(qdI n.items key).1.n≤1000
end Go.Proofs.YtnpkhdjgedeppaaGreatDoor
namespace Go.Proofs.YtnpkhdjgedeppaaGreatDoor
set_option maxHeartbeats 64000000
open Go.Am
set_option linter.unusedSimpArgs false
set_option linter.unusedVariables false
set_option maxRecDepth 100000
def qC6 (r:Rs):Bool:=decide (300<r.key.length)|| decide (300<r.val.length)
@[go_sem] theorem e10 (n:Nd) (h:n.fit):fn C 10 [] [.agg [.str n.me.name,.int .u64 (n.me.id:Int),.int .i64 n.me.fr,.int .i64 n.me.un,.int .i64 n.me.ix,.str n.me.tag,.int .i64 n.clock,.str n.psk,.int .i64 n.gateI,.str n.gateK,.bool n.ready,.slice 8 (n.pred.map Pr.cs),.slice 8 (n.list.map Pr.cs),.slice 9 (n.fingers.map Fg.cs),.slice 20 (n.sessions.map Se.cs),.slice 23 (n.pends.map Pd.cs),.slice 4 (n.items.map It.cs),.slice 29 (n.jobs.map Jb.cs),.int .i64 n.rid,.int .i64 n.jobId,.slice 1 (n.draws.map qat),.slice 8 (n.results.map Rs.cs)]]=some (.bool (qbc n),[]):=by
 rw [qaa Tryz.func10 rfl rfl Tryz.results10 qLF.1 rfl rfl (by kernel_rfl)]
 have hme1:=h.me.n
 have hme2:=h.me.t
 obtain ⟨h1,h2,h3,h4,h5,h6,h7,h8,h9,h10,h11,h12,h13,h14,h15,h16,h17,h18,h19,h20⟩:=h
 rcases Bool.eq_false_or_eq_true (qbp n.me)with b1 | b1
 ·simp -implicitDefEqProofs -dsimp +contextual (maxSteps:=9999999) (disch:=first | omega | simp only [go_sem]<;>omega | refine ib ?_;kernel_rfl) only [go_sem,seval,↓reduceIte,b1]
  simp [qbc,b1]
 by_cases b2:300<n.psk.length
 ·simp -implicitDefEqProofs -dsimp +contextual (maxSteps:=9999999) (disch:=first | omega | simp only [go_sem]<;>omega | refine ib ?_;kernel_rfl) only [go_sem,seval,↓reduceIte,b1,b2]
  simp [qbc,b2]
 by_cases b3:300<n.gateK.length
 ·simp -implicitDefEqProofs -dsimp +contextual (maxSteps:=9999999) (disch:=first | omega | simp only [go_sem]<;>omega | refine ib ?_;kernel_rfl) only [go_sem,seval,↓reduceIte,b1,b2,b3]
  simp [qbc,b3]
 rcases Bool.eq_false_or_eq_true (qd8 n.pred)with b4 | b4
 ·simp -implicitDefEqProofs -dsimp +contextual (maxSteps:=9999999) (disch:=first | omega | simp only [go_sem]<;>omega | refine ib ?_;kernel_rfl) only [go_sem,seval,↓reduceIte,b1,b2,b3,b4,h5]
  simp [qbc,b4]
 rcases Bool.eq_false_or_eq_true (qd8 n.list)with b5 | b5
 ·simp -implicitDefEqProofs -dsimp +contextual (maxSteps:=9999999) (disch:=first | omega | simp only [go_sem]<;>omega | refine ib ?_;kernel_rfl) only [go_sem,seval,↓reduceIte,b1,b2,b3,b4,b5,h5,h7]
  simp [qbc,b5]
 by_cases b6:70<n.fingers.length
 ·simp -implicitDefEqProofs -dsimp +contextual (maxSteps:=9999999) (disch:=first | omega | simp only [go_sem]<;>omega | refine ib ?_;kernel_rfl) only [go_sem,seval,↓reduceIte,b1,b2,b3,b4,b5,b6,h5,h7]
  simp [qbc,b6]
 rcases Bool.eq_false_or_eq_true (qfY n.sessions)with b7 | b7
 ·simp -implicitDefEqProofs -dsimp +contextual (maxSteps:=9999999) (disch:=first | omega | simp only [go_sem]<;>omega | refine ib ?_;kernel_rfl) only [go_sem,seval,↓reduceIte,b1,b2,b3,b4,b5,b6,b7,h5,h7,h11]
  simp [qbc,b7]
 rcases Bool.eq_false_or_eq_true (qcD n.pends)with b8 | b8
 ·simp -implicitDefEqProofs -dsimp +contextual (maxSteps:=9999999) (disch:=first | omega | simp only [go_sem]<;>omega | refine ib ?_;kernel_rfl) only [go_sem,seval,↓reduceIte,b1,b2,b3,b4,b5,b6,b7,b8,h5,h7,h11,h13]
  simp [qbc,b8]
 rcases Bool.eq_false_or_eq_true (qfZ n.items)with b9 | b9
 ·simp -implicitDefEqProofs -dsimp +contextual (maxSteps:=9999999) (disch:=first | omega | simp only [go_sem]<;>omega | refine ib ?_;kernel_rfl) only [go_sem,seval,↓reduceIte,b1,b2,b3,b4,b5,b6,b7,b8,b9,h5,h7,h11,h13,h15]
  simp [qbc,b9]
 by_cases b10:20<n.jobs.length
 ·simp -implicitDefEqProofs -dsimp +contextual (maxSteps:=9999999) (disch:=first | omega | simp only [go_sem]<;>omega | refine ib ?_;kernel_rfl) only [go_sem,seval,↓reduceIte,b1,b2,b3,b4,b5,b6,b7,b8,b9,b10,h5,h7,h11,h13,h15]
  simp [qbc,b10]
 by_cases b11:60<n.draws.length
 ·simp -implicitDefEqProofs -dsimp +contextual (maxSteps:=9999999) (disch:=first | omega | simp only [go_sem]<;>omega | refine ib ?_;kernel_rfl) only [go_sem,seval,↓reduceIte,b1,b2,b3,b4,b5,b6,b7,b8,b9,b10,b11,h5,h7,h11,h13,h15]
  simp [qbc,b11]
 by_cases b12:40<n.results.length
 ·simp -implicitDefEqProofs -dsimp +contextual (maxSteps:=9999999) (disch:=first | omega | simp only [go_sem]<;>omega | refine ib ?_;kernel_rfl) only [go_sem,seval,↓reduceIte,b1,b2,b3,b4,b5,b6,b7,b8,b9,b10,b11,b12,h5,h7,h11,h13,h15]
  simp [qbc,b12]
 simp -implicitDefEqProofs -dsimp +contextual (maxSteps:=9999999) (disch:=first | omega | simp only [go_sem]<;>omega | refine ib ?_;kernel_rfl) only [go_sem,seval,↓reduceIte,b1,b2,b3,b4,b5,b6,b7,b8,b9,b10,b11,b12,h5,h7,h11,h13,h15]
 refine qdb n.fingers.length (fun i f H=>f 1= .ptr 101 1 0 0∧f 3= .int .i64 (i:Nat)∧H 101=⟨1,.live,22,[n.cs],false⟩∧(n.fingers.take i).any (fun x=>qbp x.p.e)=false) ?_ ?_ ⟨rfl,rfl,rfl,rfl⟩
 ·rintro i f H hi ⟨f1,f3,hH,ha⟩ ih
  have k1:=(h9 _ (List.getElem_mem hi)).l.n
  have k2:=(h9 _ (List.getElem_mem hi)).l.t
  simp -implicitDefEqProofs -dsimp +contextual (maxSteps:=9999999) (disch:=first | omega | simp only [go_sem]<;>omega | refine ib ?_;kernel_rfl) only [go_sem,seval,↓reduceIte,f1,f3,hH,hi,Nd.cs]
  (repeat' (refine qae (fun _=>?_) (fun _=>?_)))
  ·rename_i g;simp [qbc,qc4 (p:=fun x:Fg=>qbp x.p.e) hi g]
  ·rename_i g;exact ih _ _ ⟨f1,rfl,hH,qaI hi ha (by simpa using g)⟩
 rintro f H ⟨f1,f3,hH,ha⟩
 simp -implicitDefEqProofs -dsimp +contextual (maxSteps:=9999999) (disch:=first | omega | simp only [go_sem]<;>omega | refine ib ?_;kernel_rfl) only [go_sem,seval,↓reduceIte,f1,f3,hH,Nd.cs]
 have a1:=qa5 ha
 refine qdb n.jobs.length (fun i f H=>f 1= .ptr 101 1 0 0∧f 4= .int .i64 (i:Nat)∧H 101=⟨1,.live,22,[n.cs],false⟩∧(n.jobs.take i).any qc3=false) ?_ ?_ ⟨f1,rfl,hH,rfl⟩
 ·rintro i f H hi ⟨f1,f4,hH,ha⟩ ih
  obtain ⟨k1,k2,⟨k3,k4⟩,⟨k5,k6⟩,⟨k7,k8⟩,k9,k10⟩:=h17 _ (List.getElem_mem hi)
  have big:qc3 n.jobs[i]=true→qbc n=true:=fun g=>by simp [qbc,qc4 hi g]
  by_cases c1:300<n.jobs[i].key.length
  ·simp -implicitDefEqProofs -dsimp +contextual (maxSteps:=9999999) (disch:=first | omega | simp only [go_sem]<;>omega | refine ib ?_;kernel_rfl) only [go_sem,seval,↓reduceIte,f1,f4,hH,hi,Nd.cs,c1]
   rw [big (by simp [qc3,c1])]
  by_cases c2:300<n.jobs[i].val.length
  ·simp -implicitDefEqProofs -dsimp +contextual (maxSteps:=9999999) (disch:=first | omega | simp only [go_sem]<;>omega | refine ib ?_;kernel_rfl) only [go_sem,seval,↓reduceIte,f1,f4,hH,hi,Nd.cs,c1,c2]
   rw [big (by simp [qc3,c2])]
  by_cases c3:300<n.jobs[i].item.k.length
  ·simp -implicitDefEqProofs -dsimp +contextual (maxSteps:=9999999) (disch:=first | omega | simp only [go_sem]<;>omega | refine ib ?_;kernel_rfl) only [go_sem,seval,↓reduceIte,f1,f4,hH,hi,Nd.cs,c1,c2,c3]
   rw [big (by simp [qc3,c3])]
  by_cases c4:300<n.jobs[i].item.v.length
  ·simp -implicitDefEqProofs -dsimp +contextual (maxSteps:=9999999) (disch:=first | omega | simp only [go_sem]<;>omega | refine ib ?_;kernel_rfl) only [go_sem,seval,↓reduceIte,f1,f4,hH,hi,Nd.cs,c1,c2,c3,c4]
   rw [big (by simp [qc3,c4])]
  rcases Bool.eq_false_or_eq_true (qbp n.jobs[i].owner)with c5 | c5
  ·simp -implicitDefEqProofs -dsimp +contextual (maxSteps:=9999999) (disch:=first | omega | simp only [go_sem]<;>omega | refine ib ?_;kernel_rfl) only [go_sem,seval,↓reduceIte,f1,f4,hH,hi,Nd.cs,c1,c2,c3,c4,c5]
   rw [big (by simp [qc3,c5])]
  rcases Bool.eq_false_or_eq_true (qbp n.jobs[i].back)with c6 | c6
  ·simp -implicitDefEqProofs -dsimp +contextual (maxSteps:=9999999) (disch:=first | omega | simp only [go_sem]<;>omega | refine ib ?_;kernel_rfl) only [go_sem,seval,↓reduceIte,f1,f4,hH,hi,Nd.cs,c1,c2,c3,c4,c5,c6]
   rw [big (by simp [qc3,c6])]
  by_cases c7:30<n.jobs[i].asked.length
  ·simp -implicitDefEqProofs -dsimp +contextual (maxSteps:=9999999) (disch:=first | omega | simp only [go_sem]<;>omega | refine ib ?_;kernel_rfl) only [go_sem,seval,↓reduceIte,f1,f4,hH,hi,Nd.cs,c1,c2,c3,c4,c5,c6,c7]
   rw [big (by simp [qc3,c7])]
  simp -implicitDefEqProofs -dsimp +contextual (maxSteps:=9999999) (disch:=first | omega | simp only [go_sem]<;>omega | refine ib ?_;kernel_rfl) only [go_sem,seval,↓reduceIte,f1,f4,hH,hi,Nd.cs,c1,c2,c3,c4,c5,c6,c7]
  refine qdb n.jobs[i].asked.length (fun k f H=>f 1= .ptr 101 1 0 0∧f 4= .int .i64 (i:Nat)∧f 6= .int .i64 (k:Nat)∧H 101=⟨1,.live,22,[n.cs],false⟩∧(∃g,f 5= .ptr 105 g 0 0∧H 105=⟨g,.live,29,[n.jobs[i].cs],false⟩)∧(n.jobs[i].asked.take k).any (fun a=>decide (1000<a.length))=false) ?_ ?_ ⟨f1,f4,rfl,by simp [qac.set,hH],⟨_,rfl,rfl⟩,rfl⟩
  ·rintro k f H hk ⟨f1,f4,f6,hH,⟨g,f5,hG⟩,hb⟩ ih2
   have q1:=k10 _ (List.getElem_mem hk)
   simp -implicitDefEqProofs -dsimp +contextual (maxSteps:=9999999) (disch:=first | omega | simp only [go_sem]<;>omega | refine ib ?_;kernel_rfl) only [go_sem,seval,↓reduceIte,f1,f4,f5,f6,hH,hG,hk,hi]
   (repeat' (refine qae (fun _=>?_) (fun _=>?_)))
   ·rename_i g';rw [big (by simp [qc3,qc4 (p:=fun a:List UInt8=>decide (1000<a.length)) hk (by simpa using g')])]
   ·rename_i g';exact ih2 _ _ ⟨f1,f4,rfl,hH,⟨g,f5,hG⟩,qaI hk hb (by simpa using g')⟩
  ·rintro f H ⟨f1,f4,f6,hH,⟨g,f5,hG⟩,hb⟩
   simp -implicitDefEqProofs -dsimp +contextual (maxSteps:=9999999) (disch:=first | omega | simp only [go_sem]<;>omega | refine ib ?_;kernel_rfl) only [go_sem,seval,↓reduceIte,f1,f4,f5,f6,hH,hG,hi]
   exact ih _ _ ⟨f1,rfl,hH,qaI hi ha (by simp [qc3,c1,c2,c3,c4,c5,c6,c7,qa5 hb])⟩
 rintro f H ⟨f1,f4,hH,ha⟩
 simp -implicitDefEqProofs -dsimp +contextual (maxSteps:=9999999) (disch:=first | omega | simp only [go_sem]<;>omega | refine ib ?_;kernel_rfl) only [go_sem,seval,↓reduceIte,f1,f4,hH,Nd.cs]
 have a2:=qa5 ha
 refine qdb n.results.length (fun i f H=>f 1= .ptr 101 1 0 0∧f 7= .int .i64 (i:Nat)∧H 101=⟨1,.live,22,[n.cs],false⟩∧(n.results.take i).any qC6=false) ?_ ?_ ⟨f1,rfl,hH,rfl⟩
 ·rintro i f H hi ⟨f1,f7,hH,ha⟩ ih
  have k1:=(h20 _ (List.getElem_mem hi)).k
  have k2:=(h20 _ (List.getElem_mem hi)).v
  have big:qC6 n.results[i]=true→qbc n=true:=fun g=>by
   have:=qc4 hi g
   unfold qC6 at this
   simp [qbc,this]
  simp -implicitDefEqProofs -dsimp +contextual (maxSteps:=9999999) (disch:=first | omega | simp only [go_sem]<;>omega | refine ib ?_;kernel_rfl) only [go_sem,seval,↓reduceIte,f1,f7,hH,hi,Nd.cs]
  (repeat' (refine qae (fun _=>?_) (fun _=>?_)))
  ·rename_i g;rw [big (by simp [qC6,g])]
  ·rename_i g g';rw [big (by simp [qC6,g'])]
  ·rename_i g g';exact ih _ _ ⟨f1,rfl,hH,qaI hi ha (by simp [qC6];omega)⟩
 rintro f H ⟨f1,f7,hH,ha⟩
 simp -implicitDefEqProofs -dsimp +contextual (maxSteps:=9999999) (disch:=first | omega | simp only [go_sem]<;>omega | refine ib ?_;kernel_rfl) only [go_sem,seval,↓reduceIte,f1,f7,hH,Nd.cs]
 have a3:=qa5 ha
 unfold qC6 at a3
 simp [qbc,b1,b2,b3,b4,b5,b6,b7,b8,b9,b10,b11,b12,a1,a2,a3]
end Go.Proofs.YtnpkhdjgedeppaaGreatDoor
