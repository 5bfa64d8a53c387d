import Derived.Test.YtnpkhdjgedeppaaGreatDoorTShapes
namespace Go.Proofs.YtnpkhdjgedeppaaGreatDoor
set_option maxHeartbeats 64000000
open Go.Am
set_option linter.unusedSimpArgs false
set_option linter.unusedVariables false
set_option maxRecDepth 100000
attribute [local irreducible] qaC idB qdL qaG
def knB (e:En) (x:Pr):Bool:=decide (x.e=e)
def akB (name:List UInt8) (a:Ac):Bool:=decide (a.to.name=name)
def pdB (q:Int×List UInt8) (p:Pd):Bool:=decide (p.why=q.1)&&decide (p.to.name=q.2)
theorem qOT (e:En) (x:Pr):fn C 139 [] [.agg [.str x.e.name,.int .u64 (x.e.id:Int),.int .i64 x.e.fr,.int .i64 x.e.un,.int .i64 x.e.ix,.str x.e.tag,.int .i64 x.since,.int .i64 x.under],.iptr [.str e.name,.int .u64 (e.id:Int),.int .i64 e.fr,.int .i64 e.un,.int .i64 e.ix,.str e.tag]]=some (.bool (knB e x),[]):=by
 have eqv:=qft x.e e
 rw [qaa Tryz.func139 rfl rfl Tryz.results139 qFy.1 rfl rfl (by kernel_rfl)]
 simp -implicitDefEqProofs -dsimp +contextual (maxSteps:=9999999) (disch:=first | omega | simp only [go_sem]<;>omega | refine ib ?_;kernel_rfl) only [go_sem,seval,↓reduceIte,eqv]
 rfl
theorem qOU (e:En) (a:Ac):fn C 141 [] [.agg [.bool a.ans,.str a.to.name,.int .u64 (a.to.id:Int),.int .i64 a.to.fr,.int .i64 a.to.un,.int .i64 a.to.ix,.str a.to.tag,.int .i64 a.m.kind,.int .i64 a.m.rid,.int .i64 a.m.ver,.int .i64 a.m.err,.int .u64 (a.m.id:Int),.bool a.m.has,.bool a.m.gone,.str a.m.key,.str a.m.val,.slice 6 (a.m.ents.map En.cs),.slice 4 (a.m.items.map It.cs),.int .i64 a.why,.int .i64 a.job],.iptr [.str e.name,.int .u64 (e.id:Int),.int .i64 e.fr,.int .i64 e.un,.int .i64 e.ix,.str e.tag]]=some (.bool (akB e.name a),[]):=by
 rw [qaa Tryz.func141 rfl rfl Tryz.results141 qFA.1 rfl rfl (by kernel_rfl)]
 simp -implicitDefEqProofs -dsimp +contextual (maxSteps:=9999999) (disch:=first | omega | simp only [go_sem]<;>omega | refine ib ?_;kernel_rfl) only [go_sem,seval,↓reduceIte]
 rfl
theorem qOV (q : Int × List UInt8) (p : Pd) : fn C 209 [] [.agg [.int .i64 p.rid, .int .i64 p.why, .int .i64 p.job, .int .i64 p.til, .int .i64 p.tries, .int .u64 (p.session : Int), .str p.to.name, .int .u64 (p.to.id : Int), .int .i64 p.to.fr, .int .i64 p.to.un, .int .i64 p.to.ix, .str p.to.tag, .int .i64 p.m.kind, .int .i64 p.m.rid, .int .i64 p.m.ver, .int .i64 p.m.err, .int .u64 (p.m.id : Int), .bool p.m.has, .bool p.m.gone, .str p.m.key, .str p.m.val, .slice 6 (p.m.ents.map En.cs), .slice 4 (p.m.items.map It.cs)], .iptr [.int .i64 q.1], .iptr [.str q.2]] = some (.bool (pdB q p), []) := by
  rw [qaa Tryz.func209 rfl rfl Tryz.results209 qGf.1 rfl rfl (by kernel_rfl)]
  simp -implicitDefEqProofs -dsimp +contextual (maxSteps := 9999999) (disch := first | omega | simp only [go_sem] <;> omega | refine ib ?_; kernel_rfl) only [go_sem, seval, ↓reduceIte]
  (repeat' (refine qae (fun _ => ?_) (fun _ => ?_))) <;> exact qaw (by simp [pdB, *])
theorem qlE (e:En) (l:List Pr) (hl:l.length≤9223372036854775807):fn C 206 [] [.slice 8 (l.map Pr.cs),.fn (.func 139) [] [.iptr [.str e.name,.int .u64 (e.id:Int),.int .i64 e.fr,.int .i64 e.un,.int .i64 e.ix,.str e.tag]]]=some (.int .i64 (qcx (knB e) l),[]):=by
 rw [qaa Tryz.func206 rfl rfl Tryz.results206 qx2.1 rfl rfl (by kernel_rfl)]
 simp -implicitDefEqProofs -dsimp +contextual (maxSteps:=9999999) (disch:=first | omega | simp only [go_sem]<;>omega | refine ib ?_;kernel_rfl) only [go_sem,seval,↓reduceIte]
 refine qdb l.length (fun i f H=>f 0= .slice 8 (l.map Pr.cs)∧f 1= .fn (.func 139) [] [.iptr [.str e.name,.int .u64 (e.id:Int),.int .i64 e.fr,.int .i64 e.un,.int .i64 e.ix,.str e.tag]]∧f 7= .int .i64 l.length∧f 8= .int .i64 (i:Nat)∧H=qac.nil∧(l.take i).any (knB e)=false) ?_ ?_ (by exact ⟨rfl,rfl,rfl,rfl,rfl,rfl⟩)
 ·rintro i f _ hi ⟨f0,f1,f7,f8,rfl,ha⟩ ih
  have row:(l.map Pr.cs)[i]?=some [.str l[i].e.name,.int .u64 (l[i].e.id:Int),.int .i64 l[i].e.fr,.int .i64 l[i].e.un,.int .i64 l[i].e.ix,.str l[i].e.tag,.int .i64 l[i].since,.int .i64 l[i].under]:=by rw [List.getElem?_map,List.getElem?_eq_getElem hi];rfl
  have e1:=qOT e l[i]
  cases h:knB e l[i]with
  | true=>
   rw [h]at e1
   simp -implicitDefEqProofs -dsimp +contextual (maxSteps:=9999999) (disch:=first | omega | simp only [go_sem]<;>omega | refine ib ?_;kernel_rfl) only [go_sem,seval,↓reduceIte,f0,f1,f7,f8,hi,row,e1]
   rw [qbu hi ha h]
  | false=>
   rw [h]at e1
   simp -implicitDefEqProofs -dsimp +contextual (maxSteps:=9999999) (disch:=first | omega | simp only [go_sem]<;>omega | refine ib ?_;kernel_rfl) only [go_sem,seval,↓reduceIte,f0,f1,f7,f8,hi,row,e1]
   exact ih _ _ ⟨f0,f1,f7,rfl,rfl,qaI hi ha h⟩
 ·rintro f _ ⟨f0,f1,f7,f8,rfl,ha⟩
  simp -implicitDefEqProofs -dsimp +contextual (maxSteps:=9999999) (disch:=first | omega | simp only [go_sem]<;>omega | refine ib ?_;kernel_rfl) only [go_sem,seval,↓reduceIte,f0,f1,f7,f8]
  rw [qbf (qa5 ha)]
theorem qt7 (e:En) (l:List Pr) (hl:l.length≤9223372036854775807):fn C 138 [] [.slice 8 (l.map Pr.cs),.fn (.func 139) [] [.iptr [.str e.name,.int .u64 (e.id:Int),.int .i64 e.fr,.int .i64 e.un,.int .i64 e.ix,.str e.tag]]]=some (.bool (l.any (knB e)),[]):=by
 rw [qaa Tryz.func138 rfl rfl Tryz.results138 qCw.1 rfl rfl (by kernel_rfl)]
 rcases qbE (knB e) l with ⟨j,hj,hq,hn,hp⟩|⟨hn,hp⟩
 ·have e1:fn C 206 [] [.slice 8 (l.map Pr.cs),.fn (.func 139) [] [.iptr [.str e.name,.int .u64 (e.id:Int),.int .i64 e.fr,.int .i64 e.un,.int .i64 e.ix,.str e.tag]]]=some (.int .i64 j,[]):=by rw [←hp];exact qlE _ l hl
  have ha:l.any (knB e)=true:=List.any_eq_true.2 ⟨_,List.getElem_mem hj,hq⟩
  rw [ha]
  simp -implicitDefEqProofs -dsimp +contextual (maxSteps:=9999999) (disch:=first | omega | simp only [go_sem]<;>omega | refine ib ?_;kernel_rfl) only [go_sem,seval,↓reduceIte,e1]
 ·have e1:fn C 206 [] [.slice 8 (l.map Pr.cs),.fn (.func 139) [] [.iptr [.str e.name,.int .u64 (e.id:Int),.int .i64 e.fr,.int .i64 e.un,.int .i64 e.ix,.str e.tag]]]=some (.int .i64 (-1),[]):=by rw [←hp];exact qlE _ l hl
  rw [hn]
  simp -implicitDefEqProofs -dsimp +contextual (maxSteps:=9999999) (disch:=first | omega | simp only [go_sem]<;>omega | refine ib ?_;kernel_rfl) only [go_sem,seval,↓reduceIte,e1]
theorem qlF (e:En) (l:List Ac) (hl:l.length≤9223372036854775807):fn C 207 [] [.slice 20 (l.map Ac.cs),.fn (.func 141) [] [.iptr [.str e.name,.int .u64 (e.id:Int),.int .i64 e.fr,.int .i64 e.un,.int .i64 e.ix,.str e.tag]]]=some (.int .i64 (qcx (akB e.name) l),[]):=by
 rw [qaa Tryz.func207 rfl rfl Tryz.results207 qGd.1 rfl rfl (by kernel_rfl)]
 simp -implicitDefEqProofs -dsimp +contextual (maxSteps:=9999999) (disch:=first | omega | simp only [go_sem]<;>omega | refine ib ?_;kernel_rfl) only [go_sem,seval,↓reduceIte]
 refine qdb l.length (fun i f H=>f 0= .slice 20 (l.map Ac.cs)∧f 1= .fn (.func 141) [] [.iptr [.str e.name,.int .u64 (e.id:Int),.int .i64 e.fr,.int .i64 e.un,.int .i64 e.ix,.str e.tag]]∧f 7= .int .i64 l.length∧f 8= .int .i64 (i:Nat)∧H=qac.nil∧(l.take i).any (akB e.name)=false) ?_ ?_ (by exact ⟨rfl,rfl,rfl,rfl,rfl,rfl⟩)
 ·rintro i f _ hi ⟨f0,f1,f7,f8,rfl,ha⟩ ih
  have row:(l.map Ac.cs)[i]?=some [.bool l[i].ans,.str l[i].to.name,.int .u64 (l[i].to.id:Int),.int .i64 l[i].to.fr,.int .i64 l[i].to.un,.int .i64 l[i].to.ix,.str l[i].to.tag,.int .i64 l[i].m.kind,.int .i64 l[i].m.rid,.int .i64 l[i].m.ver,.int .i64 l[i].m.err,.int .u64 (l[i].m.id:Int),.bool l[i].m.has,.bool l[i].m.gone,.str l[i].m.key,.str l[i].m.val,.slice 6 (l[i].m.ents.map En.cs),.slice 4 (l[i].m.items.map It.cs),.int .i64 l[i].why,.int .i64 l[i].job]:=by rw [List.getElem?_map,List.getElem?_eq_getElem hi];rfl
  have e1:=qOU e l[i]
  cases h:akB e.name l[i]with
  | true=>
   rw [h]at e1
   simp -implicitDefEqProofs -dsimp +contextual (maxSteps:=9999999) (disch:=first | omega | simp only [go_sem]<;>omega | refine ib ?_;kernel_rfl) only [go_sem,seval,↓reduceIte,f0,f1,f7,f8,hi,row,e1]
   rw [qbu hi ha h]
  | false=>
   rw [h]at e1
   simp -implicitDefEqProofs -dsimp +contextual (maxSteps:=9999999) (disch:=first | omega | simp only [go_sem]<;>omega | refine ib ?_;kernel_rfl) only [go_sem,seval,↓reduceIte,f0,f1,f7,f8,hi,row,e1]
   exact ih _ _ ⟨f0,f1,f7,rfl,rfl,qaI hi ha h⟩
 ·rintro f _ ⟨f0,f1,f7,f8,rfl,ha⟩
  simp -implicitDefEqProofs -dsimp +contextual (maxSteps:=9999999) (disch:=first | omega | simp only [go_sem]<;>omega | refine ib ?_;kernel_rfl) only [go_sem,seval,↓reduceIte,f0,f1,f7,f8]
  rw [qbf (qa5 ha)]
theorem qt8 (e:En) (l:List Ac) (hl:l.length≤9223372036854775807):fn C 140 [] [.slice 20 (l.map Ac.cs),.fn (.func 141) [] [.iptr [.str e.name,.int .u64 (e.id:Int),.int .i64 e.fr,.int .i64 e.un,.int .i64 e.ix,.str e.tag]]]=some (.bool (l.any (akB e.name)),[]):=by
 rw [qaa Tryz.func140 rfl rfl Tryz.results140 qFz.1 rfl rfl (by kernel_rfl)]
 rcases qbE (akB e.name) l with ⟨j,hj,hq,hn,hp⟩|⟨hn,hp⟩
 ·have e1:fn C 207 [] [.slice 20 (l.map Ac.cs),.fn (.func 141) [] [.iptr [.str e.name,.int .u64 (e.id:Int),.int .i64 e.fr,.int .i64 e.un,.int .i64 e.ix,.str e.tag]]]=some (.int .i64 j,[]):=by rw [←hp];exact qlF _ l hl
  have ha:l.any (akB e.name)=true:=List.any_eq_true.2 ⟨_,List.getElem_mem hj,hq⟩
  rw [ha]
  simp -implicitDefEqProofs -dsimp +contextual (maxSteps:=9999999) (disch:=first | omega | simp only [go_sem]<;>omega | refine ib ?_;kernel_rfl) only [go_sem,seval,↓reduceIte,e1]
 ·have e1:fn C 207 [] [.slice 20 (l.map Ac.cs),.fn (.func 141) [] [.iptr [.str e.name,.int .u64 (e.id:Int),.int .i64 e.fr,.int .i64 e.un,.int .i64 e.ix,.str e.tag]]]=some (.int .i64 (-1),[]):=by rw [←hp];exact qlF _ l hl
  rw [hn]
  simp -implicitDefEqProofs -dsimp +contextual (maxSteps:=9999999) (disch:=first | omega | simp only [go_sem]<;>omega | refine ib ?_;kernel_rfl) only [go_sem,seval,↓reduceIte,e1]
theorem qoE (q:Int×List UInt8) (l:List Pd) (hl:l.length≤9223372036854775807):fn C 247 [] [.slice 23 (l.map Pd.cs),.fn (.func 209) [] [.iptr [.int .i64 q.1],.iptr [.str q.2]]]=some (.int .i64 (qcx (pdB q) l),[]):=by
 rw [qaa Tryz.func247 rfl rfl Tryz.results247 qGH.1 rfl rfl (by kernel_rfl)]
 simp -implicitDefEqProofs -dsimp +contextual (maxSteps:=9999999) (disch:=first | omega | simp only [go_sem]<;>omega | refine ib ?_;kernel_rfl) only [go_sem,seval,↓reduceIte]
 refine qdb l.length (fun i f H=>f 0= .slice 23 (l.map Pd.cs)∧f 1= .fn (.func 209) [] [.iptr [.int .i64 q.1],.iptr [.str q.2]]∧f 7= .int .i64 l.length∧f 8= .int .i64 (i:Nat)∧H=qac.nil∧(l.take i).any (pdB q)=false) ?_ ?_ (by exact ⟨rfl,rfl,rfl,rfl,rfl,rfl⟩)
 ·rintro i f _ hi ⟨f0,f1,f7,f8,rfl,ha⟩ ih
  have row:(l.map Pd.cs)[i]?=some [.int .i64 l[i].rid,.int .i64 l[i].why,.int .i64 l[i].job,.int .i64 l[i].til,.int .i64 l[i].tries,.int .u64 (l[i].session:Int),.str l[i].to.name,.int .u64 (l[i].to.id:Int),.int .i64 l[i].to.fr,.int .i64 l[i].to.un,.int .i64 l[i].to.ix,.str l[i].to.tag,.int .i64 l[i].m.kind,.int .i64 l[i].m.rid,.int .i64 l[i].m.ver,.int .i64 l[i].m.err,.int .u64 (l[i].m.id:Int),.bool l[i].m.has,.bool l[i].m.gone,.str l[i].m.key,.str l[i].m.val,.slice 6 (l[i].m.ents.map En.cs),.slice 4 (l[i].m.items.map It.cs)]:=by rw [List.getElem?_map,List.getElem?_eq_getElem hi];rfl
  have e1:=qOV q l[i]
  cases h:pdB q l[i]with
  | true=>
   rw [h]at e1
   simp -implicitDefEqProofs -dsimp +contextual (maxSteps:=9999999) (disch:=first | omega | simp only [go_sem]<;>omega | refine ib ?_;kernel_rfl) only [go_sem,seval,↓reduceIte,f0,f1,f7,f8,hi,row,e1]
   rw [qbu hi ha h]
  | false=>
   rw [h]at e1
   simp -implicitDefEqProofs -dsimp +contextual (maxSteps:=9999999) (disch:=first | omega | simp only [go_sem]<;>omega | refine ib ?_;kernel_rfl) only [go_sem,seval,↓reduceIte,f0,f1,f7,f8,hi,row,e1]
   exact ih _ _ ⟨f0,f1,f7,rfl,rfl,qaI hi ha h⟩
 ·rintro f _ ⟨f0,f1,f7,f8,rfl,ha⟩
  simp -implicitDefEqProofs -dsimp +contextual (maxSteps:=9999999) (disch:=first | omega | simp only [go_sem]<;>omega | refine ib ?_;kernel_rfl) only [go_sem,seval,↓reduceIte,f0,f1,f7,f8]
  rw [qbf (qa5 ha)]
theorem qys (q:Int×List UInt8) (l:List Pd) (hl:l.length≤9223372036854775807):fn C 208 [] [.slice 23 (l.map Pd.cs),.fn (.func 209) [] [.iptr [.int .i64 q.1],.iptr [.str q.2]]]=some (.bool (l.any (pdB q)),[]):=by
 rw [qaa Tryz.func208 rfl rfl Tryz.results208 qGe.1 rfl rfl (by kernel_rfl)]
 rcases qbE (pdB q) l with ⟨j,hj,hq,hn,hp⟩|⟨hn,hp⟩
 ·have e1:fn C 247 [] [.slice 23 (l.map Pd.cs),.fn (.func 209) [] [.iptr [.int .i64 q.1],.iptr [.str q.2]]]=some (.int .i64 j,[]):=by rw [←hp];exact qoE _ l hl
  have ha:l.any (pdB q)=true:=List.any_eq_true.2 ⟨_,List.getElem_mem hj,hq⟩
  rw [ha]
  simp -implicitDefEqProofs -dsimp +contextual (maxSteps:=9999999) (disch:=first | omega | simp only [go_sem]<;>omega | refine ib ?_;kernel_rfl) only [go_sem,seval,↓reduceIte,e1]
 ·have e1:fn C 247 [] [.slice 23 (l.map Pd.cs),.fn (.func 209) [] [.iptr [.int .i64 q.1],.iptr [.str q.2]]]=some (.int .i64 (-1),[]):=by rw [←hp];exact qoE _ l hl
  rw [hn]
  simp -implicitDefEqProofs -dsimp +contextual (maxSteps:=9999999) (disch:=first | omega | simp only [go_sem]<;>omega | refine ib ?_;kernel_rfl) only [go_sem,seval,↓reduceIte,e1]
theorem qOW (l:List Pd) (why:Int) (name:List UInt8) (hl:l.length≤9223372036854775807):fn C 142 [] [.slice 23 (l.map Pd.cs),.int .i64 why,.str name]=some (.bool (qn0 l why name),[]):=by
 have e1:fn C 208 [] [.slice 23 (l.map Pd.cs),.fn (.func 209) [] [.iptr [.int .i64 why],.iptr [.str name]]]=some (.bool (qn0 l why name),[]):=qys (why,name) l hl
 rw [qaa Tryz.func142 rfl rfl Tryz.results142 qFB.1 rfl rfl (by kernel_rfl)]
 simp -implicitDefEqProofs -dsimp +contextual (maxSteps:=9999999) (disch:=first | omega | simp only [go_sem]<;>omega | refine ib ?_;kernel_rfl) only [go_sem,seval,↓reduceIte,e1]
theorem qOX (gi:Int) (gk:List UInt8) (now:Int) (e:En) (h:e.fine) (hk:gk.length≤10000):fn C 205 [] [.agg [.str e.name,.int .u64 (e.id:Int),.int .i64 e.fr,.int .i64 e.un,.int .i64 e.ix,.str e.tag],.iptr [.int .i64 gi,.str gk],.iptr [.int .i64 now]]=some (.tup [.agg [.str (qaN gi gk e now).e.name,.int .u64 ((qaN gi gk e now).e.id:Int),.int .i64 (qaN gi gk e now).e.fr,.int .i64 (qaN gi gk e now).e.un,.int .i64 (qaN gi gk e now).e.ix,.str (qaN gi gk e now).e.tag,.int .i64 (qaN gi gk e now).since,.int .i64 (qaN gi gk e now).under],.int .i64 (qaG gi gk e now)],[]):=by
 have e1:=e45 gi gk e now h.ok h.n h.t hk
 rw [qaa Tryz.func205 rfl rfl Tryz.results205 qGc.1 rfl rfl (by kernel_rfl)]
 simp -implicitDefEqProofs -dsimp +contextual (maxSteps:=9999999) (disch:=first | omega | simp only [go_sem]<;>omega | refine ib ?_;kernel_rfl) only [go_sem,seval,↓reduceIte,e1]
theorem qOY (gi:Int) (gk:List UInt8) (now:Int) (l:List En) (hl:l.length≤1000000) (h:∀e∈l,e.fine) (hk:gk.length≤10000):fn C 204 [] [.slice 6 (l.map En.cs),.fn (.func 205) [] [.iptr [.int .i64 gi,.str gk],.iptr [.int .i64 now]]]=some (.slice 8 ((qb6 gi gk now l).map Pr.cs),[]):=by
 rw [qao Tryz.func204 rfl rfl Tryz.results204 qGb.1 rfl rfl (by kernel_rfl)]
 simp -implicitDefEqProofs -dsimp +contextual (maxSteps:=9999999) (disch:=first | omega | simp only [go_sem]<;>omega | refine ib ?_;kernel_rfl) only [go_sem,seval,↓reduceIte]
 refine qdb l.length (fun i f H=>f 1= .fn (.func 205) [] [.iptr [.int .i64 gi,.str gk],.iptr [.int .i64 now]]∧f 10= .slice 6 (l.map En.cs)∧f 11= .int .i64 l.length∧f 12= .int .i64 (i:Nat)∧qDT f H 5 105 8 ((qb6 gi gk now (l.take i)).map Pr.cs)) ?_ ?_ (by exact ⟨rfl,rfl,rfl,rfl,⟨_,rfl,rfl⟩⟩)
 ·rintro i f H hi ⟨f1,f10,f11,f12,g,f5,hA⟩ ih
  have row:(l.map En.cs)[i]?=some [.str l[i].name,.int .u64 (l[i].id:Int),.int .i64 l[i].fr,.int .i64 l[i].un,.int .i64 l[i].ix,.str l[i].tag]:=by rw [List.getElem?_map,List.getElem?_eq_getElem hi];rfl
  have e1:=qOX gi gk now l[i] (h _ (List.getElem_mem hi)) hk
  have hm:=qq2 gi gk now l i hi
  have hn:((qb6 gi gk now (l.take i)).map Pr.cs).length≤1000000:=by rw [List.length_map];exact Nat.le_trans (qlW ..) (by simp;omega)
  by_cases hv:qaG gi gk l[i] now=0
  ·rw [if_pos hv]at hm
   have tk:qaN gi gk l[i] now=⟨l[i],now,gi⟩:=by rw [qaN,if_pos hv]
   rw [tk,hv]at e1
   have hm2:=congrArg (List.map Pr.cs) hm
   rw [List.map_append]at hm2
   rw [hm2]at ih
   generalize (qb6 gi gk now (l.take i)).map Pr.cs=r at *
   simp -implicitDefEqProofs -dsimp +contextual (maxSteps:=9999999) (disch:=first | omega | simp only [go_sem]<;>omega | refine ib ?_;kernel_rfl) only [go_sem,seval,↓reduceIte,f1,f10,f11,f12,f5,hA,hi,row,e1]
   exact ih _ _ ⟨f1,f10,f11,rfl,⟨_,by rw [List.length_append];rfl,rfl⟩⟩
  ·rw [if_neg hv]at hm
   have hv':=eq_false hv
   rw [hm]at ih
   generalize (qb6 gi gk now (l.take i)).map Pr.cs=r at *
   generalize qaG gi gk l[i] now=v at *
   simp -implicitDefEqProofs -dsimp +contextual (maxSteps:=9999999) (disch:=first | omega | simp only [go_sem]<;>omega | refine ib ?_;kernel_rfl) only [go_sem,seval,↓reduceIte,f1,f10,f11,f12,f5,hA,hi,row,e1,hv']
   exact ih _ _ ⟨f1,f10,f11,rfl,⟨_,f5,hA⟩⟩
 ·rintro f H ⟨f1,f10,f11,f12,g,f5,hA⟩
  rw [List.take_length]at f5 hA
  simp -implicitDefEqProofs -dsimp +contextual (maxSteps:=9999999) (disch:=first | omega | simp only [go_sem]<;>omega | refine ib ?_;kernel_rfl) only [go_sem,seval,↓reduceIte,f1,f10,f11,f12,f5,hA]
theorem qOZ (gi:Int) (gk:List UInt8) (now:Int) (l:List En) (hl:l.length≤1000000) (h:∀e∈l,e.fine) (hk:gk.length≤10000):fn C 137 [] [.agg [.int .i64 gi,.str gk],.slice 6 (l.map En.cs),.int .i64 now]=some (.slice 8 ((qb6 gi gk now l).map Pr.cs),[]):=by
 have e1:=qOY gi gk now l hl h hk
 rw [qaa Tryz.func137 rfl rfl Tryz.results137 qFx.1 rfl rfl (by kernel_rfl)]
 simp -implicitDefEqProofs -dsimp +contextual (maxSteps:=9999999) (disch:=first | omega | simp only [go_sem]<;>omega | refine ib ?_;kernel_rfl) only [go_sem,seval,↓reduceIte,e1]
theorem qlG (l:List Ac) (name:List UInt8):l.any (akB name)=qiU l name:=rfl
theorem qlH (l:List Pr) (e:En):l.any (knB e)=qiT l e:=rfl
theorem e48 (n:Nd) (l:List En) (hn:n.mid 100000) (hl:l.length≤100000) (h:∀e∈l,e.fine) (hk:n.gateK.length≤10000):fn C 48 [] [(aNd n),.slice 6 (l.map En.cs)]=some (.slice 20 ((qdu n l).map Ac.cs),[]):=by
 have e0:=qOZ n.gateI n.gateK n.clock l (by omega) h hk
 have hll:=hn.ll
 have hdl:=hn.dl
 rw [←qq3,show ((qb6 n.gateI n.gateK n.clock l).map Pr.e).foldl (qgz n) []=qzY n (qb6 n.gateI n.gateK n.clock l)from rfl]
 have hT:(qb6 n.gateI n.gateK n.clock l).length≤100000:=Nat.le_trans (qlW ..) hl
 generalize qb6 n.gateI n.gateK n.clock l=T at *
 rw [qao Tryz.func48 rfl rfl Tryz.results48 qLV.1 rfl rfl (by kernel_rfl)]
 simp -implicitDefEqProofs -dsimp +contextual (maxSteps:=9999999) (disch:=first | omega | simp only [go_sem]<;>omega | refine ib ?_;kernel_rfl) only [go_sem,seval,↓reduceIte,e0]
 refine qdb T.length (fun i f H=>f 2= .ptr 102 1 0 0∧f 16= .slice 8 (T.map Pr.cs)∧f 17= .int .i64 T.length∧f 18= .int .i64 (i:Nat)∧H 102=⟨1,.live,22,[[.str n.me.name,.int .u64 (n.me.id:Int),.int .i64 n.me.fr,.int .i64 n.me.un,.int .i64 n.me.ix,.str n.me.tag,.int .i64 n.clock,.str n.psk,.int .i64 n.gateI,.str n.gateK,.bool n.ready,.slice 8 (n.pred.map Pr.cs),.slice 8 (n.list.map Pr.cs),.slice 9 (n.fingers.map Fg.cs),.slice 20 (n.sessions.map Se.cs),.slice 23 (n.pends.map Pd.cs),.slice 4 (n.items.map It.cs),.slice 29 (n.jobs.map Jb.cs),.int .i64 n.rid,.int .i64 n.jobId,.slice 1 (n.draws.map qat),.slice 8 (n.results.map Rs.cs)]],false⟩∧qDT f H 5 105 20 ((qzY n (T.take i)).map Ac.cs)) ?_ ?_ (by exact ⟨rfl,rfl,rfl,rfl,rfl,⟨_,rfl,rfl⟩⟩)
 ·rintro i f H hi ⟨f2,f16,f17,f18,hN,g,f5,hA⟩ ih
  have row:(T.map Pr.cs)[i]?=some [.str T[i].e.name,.int .u64 (T[i].e.id:Int),.int .i64 T[i].e.fr,.int .i64 T[i].e.un,.int .i64 T[i].e.ix,.str T[i].e.tag,.int .i64 T[i].since,.int .i64 T[i].under]:=by rw [List.getElem?_map,List.getElem?_eq_getElem hi];rfl
  have hm:=qlX n T i hi
  have hR:=qy2 n T i
  have h1:=qt7 T[i].e n.list (by omega)
  rw [qlH]at h1
  generalize qzY n (T.take i)=R at *
  have h2:=qt8 T[i].e R (by omega)
  rw [qlG]at h2
  have h3:=qOW n.pends 3 T[i].e.name (by omega)
  rw [hm]at ih
  unfold qgz qy1 at ih
  generalize hp:T[i]=p at *
  by_cases c1:p.e.name=n.me.name
  ·have c1':=eq_true c1
   rw [decide_eq_true c1]at ih
   generalize qiT n.list p.e=b1 at *
   generalize qiU R p.e.name=b2 at *
   simp -implicitDefEqProofs -dsimp +contextual (maxSteps:=9999999) (disch:=first | omega | simp only [go_sem]<;>omega | refine ib ?_;kernel_rfl) only [go_sem,seval,↓reduceIte,f2,f16,f17,f18,hN,f5,hA,hi,row,h1,h2,c1']
   refine ih _ _ ⟨f2,f16,f17,rfl,hN,⟨_,f5,hA⟩⟩
  ·have c1':=eq_false c1
   rw [decide_eq_false c1]at ih
   generalize qiT n.list p.e=b1 at *
   generalize qiU R p.e.name=b2 at *
   generalize qn0 n.pends 3 p.e.name=b3 at *
   cases b1<;>cases b2<;>cases b3
   all_goals simp only [Bool.not_true,Bool.not_false,Bool.and_true,Bool.and_false,Bool.true_and,Bool.false_and,if_true,if_false,Bool.false_eq_true]at ih
   ·rw [List.map_append]at ih
    have hn':(R.map Ac.cs).length≤1000000:=by simp;omega
    have hcl:(R.map Ac.cs).all qbL=true:=quN R
    generalize R.map Ac.cs=r at *
    simp -implicitDefEqProofs -dsimp +contextual (maxSteps:=9999999) (disch:=first | omega | simp only [go_sem]<;>omega | refine ib ?_;kernel_rfl) only [go_sem,seval,↓reduceIte,f2,f16,f17,f18,hN,f5,hA,hi,row,h1,h2,h3,c1',hcl]
    refine ih _ _ ?_
    exact ⟨f2,f16,f17,rfl,hN,⟨_,by rw [List.length_append];rfl,rfl⟩⟩
   all_goals
    simp -implicitDefEqProofs -dsimp +contextual (maxSteps:=9999999) (disch:=first | omega | simp only [go_sem]<;>omega | refine ib ?_;kernel_rfl) only [go_sem,seval,↓reduceIte,f2,f16,f17,f18,hN,f5,hA,hi,row,h1,h2,h3,c1']
    exact ih _ _ ⟨f2,f16,f17,rfl,hN,⟨_,f5,hA⟩⟩
 ·rintro f H ⟨f2,f16,f17,f18,hN,g,f5,hA⟩
  rw [List.take_length]at f5 hA
  simp -implicitDefEqProofs -dsimp +contextual (maxSteps:=9999999) (disch:=first | omega | simp only [go_sem]<;>omega | refine ib ?_;kernel_rfl) only [go_sem,seval,↓reduceIte,f2,f16,f17,f18,hN,f5,hA]
theorem qO0 (l:List Pr) (e:En) (hl:l.length≤9223372036854775807):fn C 143 [] [.slice 8 (l.map Pr.cs),.agg [.str e.name,.int .u64 (e.id:Int),.int .i64 e.fr,.int .i64 e.un,.int .i64 e.ix,.str e.tag]]=some (.bool (l.any (knB e)),[]):=by
 rw [qaa Tryz.func143 rfl rfl Tryz.results143 qFC.1 rfl rfl (by kernel_rfl)]
 simp -implicitDefEqProofs -dsimp +contextual (maxSteps:=9999999) (disch:=first | omega | simp only [go_sem]<;>omega | refine ib ?_;kernel_rfl) only [go_sem,seval,↓reduceIte]
 refine qdb l.length (fun i f H=>f 0= .slice 8 (l.map Pr.cs)∧f 3= .ptr 103 1 0 0∧f 5= .int .i64 (i:Nat)∧H 103=⟨1,.live,6,[[.str e.name,.int .u64 (e.id:Int),.int .i64 e.fr,.int .i64 e.un,.int .i64 e.ix,.str e.tag]],false⟩∧(l.take i).any (knB e)=false) ?_ ?_ (by exact ⟨rfl,rfl,rfl,rfl,rfl⟩)
 ·rintro i f H hi ⟨f0,f3,f5,hE,ha⟩ ih
  have row:(l.map Pr.cs)[i]?=some [.str l[i].e.name,.int .u64 (l[i].e.id:Int),.int .i64 l[i].e.fr,.int .i64 l[i].e.un,.int .i64 l[i].e.ix,.str l[i].e.tag,.int .i64 l[i].since,.int .i64 l[i].under]:=by rw [List.getElem?_map,List.getElem?_eq_getElem hi];rfl
  have eqv:=qft l[i].e e
  by_cases h:l[i].e=e
  ·have h':=eq_true h
   have hq:l.any (knB e)=true:=List.any_eq_true.2 ⟨_,List.getElem_mem hi,by simp [knB,h]⟩
   rw [hq]
   simp -implicitDefEqProofs -dsimp +contextual (maxSteps:=9999999) (disch:=first | omega | simp only [go_sem]<;>omega | refine ib ?_;kernel_rfl) only [go_sem,seval,↓reduceIte,f0,f3,f5,hE,hi,row,eqv,h']
  ·have h':=eq_false h
   simp -implicitDefEqProofs -dsimp +contextual (maxSteps:=9999999) (disch:=first | omega | simp only [go_sem]<;>omega | refine ib ?_;kernel_rfl) only [go_sem,seval,↓reduceIte,f0,f3,f5,hE,hi,row,eqv,h']
   exact ih _ _ ⟨f0,f3,rfl,hE,qaI hi ha (by simp [knB,h])⟩
 ·rintro f H ⟨f0,f3,f5,hE,ha⟩
  rw [qa5 ha]
  simp -implicitDefEqProofs -dsimp +contextual (maxSteps:=9999999) (disch:=first | omega | simp only [go_sem]<;>omega | refine ib ?_;kernel_rfl) only [go_sem,seval,↓reduceIte,f0,f3,f5,hE]
theorem qO1 (l:List Ac) (name:List UInt8) (hl:l.length≤9223372036854775807):fn C 144 [] [.slice 20 (l.map Ac.cs),.str name]=some (.bool (l.any (akB name)),[]):=by
 rw [qaa Tryz.func144 rfl rfl Tryz.results144 qFD.1 rfl rfl (by kernel_rfl)]
 simp -implicitDefEqProofs -dsimp +contextual (maxSteps:=9999999) (disch:=first | omega | simp only [go_sem]<;>omega | refine ib ?_;kernel_rfl) only [go_sem,seval,↓reduceIte]
 refine qdb l.length (fun i f H=>f 0= .slice 20 (l.map Ac.cs)∧f 1= .str name∧f 5= .int .i64 (i:Nat)∧(l.take i).any (akB name)=false) ?_ ?_ (by exact ⟨rfl,rfl,rfl,rfl⟩)
 ·rintro i f H hi ⟨f0,f1,f5,ha⟩ ih
  have row:(l.map Ac.cs)[i]?=some [.bool l[i].ans,.str l[i].to.name,.int .u64 (l[i].to.id:Int),.int .i64 l[i].to.fr,.int .i64 l[i].to.un,.int .i64 l[i].to.ix,.str l[i].to.tag,.int .i64 l[i].m.kind,.int .i64 l[i].m.rid,.int .i64 l[i].m.ver,.int .i64 l[i].m.err,.int .u64 (l[i].m.id:Int),.bool l[i].m.has,.bool l[i].m.gone,.str l[i].m.key,.str l[i].m.val,.slice 6 (l[i].m.ents.map En.cs),.slice 4 (l[i].m.items.map It.cs),.int .i64 l[i].why,.int .i64 l[i].job]:=by rw [List.getElem?_map,List.getElem?_eq_getElem hi];rfl
  by_cases h:l[i].to.name=name
  ·have h':=eq_true h
   have hq:l.any (akB name)=true:=List.any_eq_true.2 ⟨_,List.getElem_mem hi,by simp [akB,h]⟩
   rw [hq]
   simp -implicitDefEqProofs -dsimp +contextual (maxSteps:=9999999) (disch:=first | omega | simp only [go_sem]<;>omega | refine ib ?_;kernel_rfl) only [go_sem,seval,↓reduceIte,f0,f1,f5,hi,row,h']
  ·have h':=eq_false h
   simp -implicitDefEqProofs -dsimp +contextual (maxSteps:=9999999) (disch:=first | omega | simp only [go_sem]<;>omega | refine ib ?_;kernel_rfl) only [go_sem,seval,↓reduceIte,f0,f1,f5,hi,row,h']
   exact ih _ _ ⟨f0,f1,rfl,qaI hi ha (by simp [akB,h])⟩
 ·rintro f H ⟨f0,f1,f5,ha⟩
  rw [qa5 ha]
  simp -implicitDefEqProofs -dsimp +contextual (maxSteps:=9999999) (disch:=first | omega | simp only [go_sem]<;>omega | refine ib ?_;kernel_rfl) only [go_sem,seval,↓reduceIte,f0,f1,f5]
theorem qO2 (l:List Pd) (why:Int) (name:List UInt8) (hl:l.length≤9223372036854775807):fn C 145 [] [.slice 23 (l.map Pd.cs),.int .i64 why,.str name]=some (.bool (qn0 l why name),[]):=by
 rw [show qn0 l why name=l.any (pdB (why,name))from rfl]
 rw [qaa Tryz.func145 rfl rfl Tryz.results145 qFE.1 rfl rfl (by kernel_rfl)]
 simp -implicitDefEqProofs -dsimp +contextual (maxSteps:=9999999) (disch:=first | omega | simp only [go_sem]<;>omega | refine ib ?_;kernel_rfl) only [go_sem,seval,↓reduceIte]
 refine qdb l.length (fun i f H=>f 0= .slice 23 (l.map Pd.cs)∧f 1= .int .i64 why∧f 2= .str name∧f 7= .int .i64 (i:Nat)∧(l.take i).any (pdB (why,name))=false) ?_ ?_ (by exact ⟨rfl,rfl,rfl,rfl,rfl⟩)
 ·rintro i f H hi ⟨f0,f1,f2,f7,ha⟩ ih
  have row:(l.map Pd.cs)[i]?=some [.int .i64 l[i].rid,.int .i64 l[i].why,.int .i64 l[i].job,.int .i64 l[i].til,.int .i64 l[i].tries,.int .u64 (l[i].session:Int),.str l[i].to.name,.int .u64 (l[i].to.id:Int),.int .i64 l[i].to.fr,.int .i64 l[i].to.un,.int .i64 l[i].to.ix,.str l[i].to.tag,.int .i64 l[i].m.kind,.int .i64 l[i].m.rid,.int .i64 l[i].m.ver,.int .i64 l[i].m.err,.int .u64 (l[i].m.id:Int),.bool l[i].m.has,.bool l[i].m.gone,.str l[i].m.key,.str l[i].m.val,.slice 6 (l[i].m.ents.map En.cs),.slice 4 (l[i].m.items.map It.cs)]:=by rw [List.getElem?_map,List.getElem?_eq_getElem hi];rfl
  have ih':=fun (hb:pdB (why,name) l[i]=false)=>qaI hi ha hb
  have hq:=fun (hb:pdB (why,name) l[i]=true)=>(List.any_eq_true.2 ⟨_,List.getElem_mem hi,hb⟩:l.any (pdB (why,name))=true)
  by_cases h1:l[i].why=why
  ·have h1':=eq_true h1
   by_cases h2:l[i].to.name=name
   ·have h2':=eq_true h2
    rw [hq (by simp [pdB,h1,h2])]
    simp -implicitDefEqProofs -dsimp +contextual (maxSteps:=9999999) (disch:=first | omega | simp only [go_sem]<;>omega | refine ib ?_;kernel_rfl) only [go_sem,seval,↓reduceIte,f0,f1,f2,f7,hi,row,h1',h2']
   ·have h2':=eq_false h2
    simp -implicitDefEqProofs -dsimp +contextual (maxSteps:=9999999) (disch:=first | omega | simp only [go_sem]<;>omega | refine ib ?_;kernel_rfl) only [go_sem,seval,↓reduceIte,f0,f1,f2,f7,hi,row,h1',h2']
    exact ih _ _ ⟨f0,f1,f2,rfl,ih' (by simp [pdB,h2])⟩
  ·have h1':=eq_false h1
   simp -implicitDefEqProofs -dsimp +contextual (maxSteps:=9999999) (disch:=first | omega | simp only [go_sem]<;>omega | refine ib ?_;kernel_rfl) only [go_sem,seval,↓reduceIte,f0,f1,f2,f7,hi,row,h1']
   exact ih _ _ ⟨f0,f1,f2,rfl,ih' (by simp [pdB,h1])⟩
 ·rintro f H ⟨f0,f1,f2,f7,ha⟩
  rw [qa5 ha]
  simp -implicitDefEqProofs -dsimp +contextual (maxSteps:=9999999) (disch:=first | omega | simp only [go_sem]<;>omega | refine ib ?_;kernel_rfl) only [go_sem,seval,↓reduceIte,f0,f1,f2,f7]
theorem e49 (n:Nd) (l:List En) (hn:n.mid 100000) (hl:l.length≤100000) (h:∀e∈l,e.fine) (hk:n.gateK.length≤10000):fn C 49 [] [(aNd n),.slice 6 (l.map En.cs)]=some (.slice 20 ((qdu n l).map Ac.cs),[]):=by
 have hll:=hn.ll
 have hdl:=hn.dl
 rw [qao Tryz.func49 rfl rfl Tryz.results49 qLW.1 rfl rfl (by kernel_rfl)]
 simp -implicitDefEqProofs -dsimp +contextual (maxSteps:=9999999) (disch:=first | omega | simp only [go_sem]<;>omega | refine ib ?_;kernel_rfl) only [go_sem,seval,↓reduceIte]
 refine qdb l.length (fun i f H=>f 1= .slice 6 (l.map En.cs)∧f 2= .ptr 102 1 0 0∧f 6= .int .i64 (i:Nat)∧H 102=⟨1,.live,22,[[.str n.me.name,.int .u64 (n.me.id:Int),.int .i64 n.me.fr,.int .i64 n.me.un,.int .i64 n.me.ix,.str n.me.tag,.int .i64 n.clock,.str n.psk,.int .i64 n.gateI,.str n.gateK,.bool n.ready,.slice 8 (n.pred.map Pr.cs),.slice 8 (n.list.map Pr.cs),.slice 9 (n.fingers.map Fg.cs),.slice 20 (n.sessions.map Se.cs),.slice 23 (n.pends.map Pd.cs),.slice 4 (n.items.map It.cs),.slice 29 (n.jobs.map Jb.cs),.int .i64 n.rid,.int .i64 n.jobId,.slice 1 (n.draws.map qat),.slice 8 (n.results.map Rs.cs)]],false⟩∧qDT f H 5 105 20 ((qdu n (l.take i)).map Ac.cs)) ?_ ?_ (by exact ⟨rfl,rfl,rfl,rfl,⟨_,rfl,rfl⟩⟩)
 ·rintro i f H hi ⟨f1,f2,f6,hN,g,f5,hA⟩ ih
  have row:(l.map En.cs)[i]?=some [.str l[i].name,.int .u64 (l[i].id:Int),.int .i64 l[i].fr,.int .i64 l[i].un,.int .i64 l[i].ix,.str l[i].tag]:=by rw [List.getElem?_map,List.getElem?_eq_getElem hi];rfl
  have hm:=qiV n l i hi
  have hR:=qlZ n l i
  generalize qdu n (l.take i)=R at *
  have hf:=h _ (List.getElem_mem hi)
  have e0:=qKJ n.gateI n.gateK l[i] n.clock hf.ok hf.n hf.t hk
  have h1:=qO0 n.list l[i] (by omega)
  rw [qlH]at h1
  have h2:=qO1 R l[i].name (by omega)
  rw [qlG]at h2
  have h3:=qO2 n.pends 3 l[i].name (by omega)
  rw [hm]at ih
  unfold qet qgz qy1 at ih
  clear hf
  generalize hp:l[i]=p at *
  by_cases c0:qaG n.gateI n.gateK p n.clock=0
  ·rw [if_pos c0]at ih
   rw [c0]at e0
   generalize qaN n.gateI n.gateK p n.clock=tp at *
   by_cases c1:p.name=n.me.name
   ·have c1':=eq_true c1
    rw [decide_eq_true c1]at ih
    generalize qiT n.list p=b1 at *
    generalize qiU R p.name=b2 at *
    simp -implicitDefEqProofs -dsimp +contextual (maxSteps:=9999999) (disch:=first | omega | simp only [go_sem]<;>omega | refine ib ?_;kernel_rfl) only [go_sem,seval,↓reduceIte,f1,f2,f6,hN,f5,hA,hi,row,e0,h1,h2,h3,c1']
    exact ih _ _ ⟨f1,f2,rfl,hN,⟨_,f5,hA⟩⟩
   ·have c1':=eq_false c1
    rw [decide_eq_false c1]at ih
    generalize qiT n.list p=b1 at *
    generalize qiU R p.name=b2 at *
    generalize qn0 n.pends 3 p.name=b3 at *
    cases b1<;>cases b2<;>cases b3
    all_goals simp only [Bool.not_true,Bool.not_false,Bool.and_true,Bool.and_false,Bool.true_and,Bool.false_and,if_true,if_false,Bool.false_eq_true]at ih
    ·rw [List.map_append]at ih
     have hn':(R.map Ac.cs).length≤1000000:=by simp;omega
     have hcl:(R.map Ac.cs).all qbL=true:=quN R
     generalize R.map Ac.cs=r at *
     simp -implicitDefEqProofs -dsimp +contextual (maxSteps:=9999999) (disch:=first | omega | simp only [go_sem]<;>omega | refine ib ?_;kernel_rfl) only [go_sem,seval,↓reduceIte,f1,f2,f6,hN,f5,hA,hi,row,e0,h1,h2,h3,c1',hcl]
     refine ih _ _ ?_
     exact ⟨f1,f2,rfl,hN,⟨_,by rw [List.length_append];rfl,rfl⟩⟩
    all_goals
     simp -implicitDefEqProofs -dsimp +contextual (maxSteps:=9999999) (disch:=first | omega | simp only [go_sem]<;>omega | refine ib ?_;kernel_rfl) only [go_sem,seval,↓reduceIte,f1,f2,f6,hN,f5,hA,hi,row,e0,h1,h2,h3,c1']
     exact ih _ _ ⟨f1,f2,rfl,hN,⟨_,f5,hA⟩⟩
  ·rw [if_neg c0]at ih
   have c0':=eq_false c0
   generalize qaN n.gateI n.gateK p n.clock=tp at *
   generalize qaG n.gateI n.gateK p n.clock=v at *
   simp -implicitDefEqProofs -dsimp +contextual (maxSteps:=9999999) (disch:=first | omega | simp only [go_sem]<;>omega | refine ib ?_;kernel_rfl) only [go_sem,seval,↓reduceIte,f1,f2,f6,hN,f5,hA,hi,row,e0,c0']
   exact ih _ _ ⟨f1,f2,rfl,hN,⟨_,f5,hA⟩⟩
 ·rintro f H ⟨f1,f2,f6,hN,g,f5,hA⟩
  rw [List.take_length]at f5 hA
  simp -implicitDefEqProofs -dsimp +contextual (maxSteps:=9999999) (disch:=first | omega | simp only [go_sem]<;>omega | refine ib ?_;kernel_rfl) only [go_sem,seval,↓reduceIte,f1,f2,f6,hN,f5,hA]
noncomputable def qC7:Own:=fun f=>if f∈[34,36] then some (fun ex ds=>fn C3 f ex ds)
 else if f∈[194,195,196,197,43,46,7,8,9,42] then none
 else some (fun ex ds=>fn C4 f ex ds)
theorem qt9:qfP E qC7:=by
 intro f g ex ds q hf hg
 unfold qC7 at hf
 split at hf
 ·simp only [aNd,Option.some.injEq]at hf
  subst hf
  exact qak qa4 qDE hg
 ·split at hf
  ·cases hf
  ·simp only [aNd,Option.some.injEq]at hf
   subst hf
   exact qak qa4 qCN hg
noncomputable def C5:Cf:=⟨E,M,qC7⟩
@[go_sem] theorem qQq:C5.E=E:=rfl
@[go_sem] theorem qQr:C5.M=M:=rfl
theorem qHM (f:FuncId) (h:f∈[34,36]) (ex ds):fn C5 f ex ds=fn C3 f ex ds:=
 qbo (g:=fun ex ds=>fn C3 f ex ds) (by show qC7 f=_;unfold qC7;rw [if_pos h]) ex ds
theorem qqM (f:FuncId) (h1:f∉[34,36]) (h2:f∉[194,195,196,197,43,46,7,8,9,42]) (ex ds):fn C5 f ex ds=fn C4 f ex ds:=
 qbo (g:=fun ex ds=>fn C4 f ex ds) (by show qC7 f=_;unfold qC7;rw [if_neg h1,if_neg h2]) ex ds
def qML (f:FuncId):Bool:=decide (f∉[34,36])&&decide (f∉[194,195,196,197,43,46,7,8,9,42])&&qKx f
theorem qlI (f:FuncId) (h:qML f=true) (ex ds):fn C5 f ex ds=fn C f ex ds:=by
 simp only [aNd,qML,Bool.and_eq_true,decide_eq_true_eq]at h
 exact (qqM f h.1.1 h.1.2 ex ds).trans (qrj f h.2 ex ds)
@[go_sem] theorem qyt (ex ds):fn C5 132 ex ds=fn C 132 ex ds:=qlI _ (by decide) ex ds
@[go_sem] theorem qu3 (ex ds):fn C5 193 ex ds=fn C 193 ex ds:=qlI _ (by decide) ex ds
@[go_sem] theorem qyu (ex ds):fn C5 198 ex ds=fn C 198 ex ds:=qlI _ (by decide) ex ds
@[go_sem] theorem qrn (ex ds):fn C5 131 ex ds=fn C 131 ex ds:=qlI _ (by decide) ex ds
@[go_sem] theorem qyv (ex ds):fn C5 107 ex ds=fn C 107 ex ds:=qlI _ (by decide) ex ds
structure LrnOk (n:Nd) (e:En) (m:Ms):Prop where
 o:CliOk n
 f:n.fine
 l:n.list.length≤1000
 e:e.fine
 el:m.ents.length≤1000
 ef:∀x∈m.ents,x.fine
 il:m.items.length≤1000000
 ik:∀x∈m.items,x.k.length≤9223372036854775807
 nk:∀x∈n.items,x.k.length≤9223372036854775807
@[reducible] def nwA (n:Nd) (p:Pd) (e:En) (m:Ms):AVal:= .agg [.str n.me.name,.int .u64 (n.me.id:Int),.int .i64 n.me.fr,.int .i64 n.me.un,.int .i64 n.me.ix,.str n.me.tag,.int .i64 n.clock,.str n.psk,.int .i64 n.gateI,.str n.gateK,.bool n.ready,.slice 8 (n.pred.map Pr.cs),.slice 8 (n.list.map Pr.cs),.slice 9 (n.fingers.map Fg.cs),.slice 20 (n.sessions.map Se.cs),.slice 23 (n.pends.map Pd.cs),.slice 4 (n.items.map It.cs),.slice 29 (n.jobs.map Jb.cs),.int .i64 n.rid,.int .i64 n.jobId,.slice 1 (n.draws.map qat),.slice 8 (n.results.map Rs.cs),.int .i64 p.rid,.int .i64 p.why,.int .i64 p.job,.int .i64 p.til,.int .i64 p.tries,.int .u64 (p.session:Int),.str p.to.name,.int .u64 (p.to.id:Int),.int .i64 p.to.fr,.int .i64 p.to.un,.int .i64 p.to.ix,.str p.to.tag,.int .i64 p.m.kind,.int .i64 p.m.rid,.int .i64 p.m.ver,.int .i64 p.m.err,.int .u64 (p.m.id:Int),.bool p.m.has,.bool p.m.gone,.str p.m.key,.str p.m.val,.slice 6 (p.m.ents.map En.cs),.slice 4 (p.m.items.map It.cs),.str e.name,.int .u64 (e.id:Int),.int .i64 e.fr,.int .i64 e.un,.int .i64 e.ix,.str e.tag,.int .i64 m.kind,.int .i64 m.rid,.int .i64 m.ver,.int .i64 m.err,.int .u64 (m.id:Int),.bool m.has,.bool m.gone,.str m.key,.str m.val,.slice 6 (m.ents.map En.cs),.slice 4 (m.items.map It.cs)]
@[go_sem] theorem qMM (n:Nd) (p:Pd) (e:En) (m:Ms):nwA n p e m= .agg [.str n.me.name,.int .u64 (n.me.id:Int),.int .i64 n.me.fr,.int .i64 n.me.un,.int .i64 n.me.ix,.str n.me.tag,.int .i64 n.clock,.str n.psk,.int .i64 n.gateI,.str n.gateK,.bool n.ready,.slice 8 (n.pred.map Pr.cs),.slice 8 (n.list.map Pr.cs),.slice 9 (n.fingers.map Fg.cs),.slice 20 (n.sessions.map Se.cs),.slice 23 (n.pends.map Pd.cs),.slice 4 (n.items.map It.cs),.slice 29 (n.jobs.map Jb.cs),.int .i64 n.rid,.int .i64 n.jobId,.slice 1 (n.draws.map qat),.slice 8 (n.results.map Rs.cs),.int .i64 p.rid,.int .i64 p.why,.int .i64 p.job,.int .i64 p.til,.int .i64 p.tries,.int .u64 (p.session:Int),.str p.to.name,.int .u64 (p.to.id:Int),.int .i64 p.to.fr,.int .i64 p.to.un,.int .i64 p.to.ix,.str p.to.tag,.int .i64 p.m.kind,.int .i64 p.m.rid,.int .i64 p.m.ver,.int .i64 p.m.err,.int .u64 (p.m.id:Int),.bool p.m.has,.bool p.m.gone,.str p.m.key,.str p.m.val,.slice 6 (p.m.ents.map En.cs),.slice 4 (p.m.items.map It.cs),.str e.name,.int .u64 (e.id:Int),.int .i64 e.fr,.int .i64 e.un,.int .i64 e.ix,.str e.tag,.int .i64 m.kind,.int .i64 m.rid,.int .i64 m.ver,.int .i64 m.err,.int .u64 (m.id:Int),.bool m.has,.bool m.gone,.str m.key,.str m.val,.slice 6 (m.ents.map En.cs),.slice 4 (m.items.map It.cs)]:=rfl
theorem qHN:fn C 132 [] [.int .i64 2]=some (.fn (.func 193) [] [],[]):=by
 rw [qaa Tryz.func132 rfl rfl Tryz.results132 qlm.1 rfl rfl (by kernel_rfl)]
 simp -implicitDefEqProofs -dsimp +contextual (maxSteps:=9999999) (disch:=first | omega | simp only [go_sem]<;>omega | refine ib ?_;kernel_rfl) only [go_sem,seval,↓reduceIte]
theorem qHO:fn C 132 [] [.int .i64 3]=some (.fn (.func 194) [] [],[]):=by
 rw [qaa Tryz.func132 rfl rfl Tryz.results132 qlm.1 rfl rfl (by kernel_rfl)]
 simp -implicitDefEqProofs -dsimp +contextual (maxSteps:=9999999) (disch:=first | omega | simp only [go_sem]<;>omega | refine ib ?_;kernel_rfl) only [go_sem,seval,↓reduceIte]
theorem qHP:fn C 132 [] [.int .i64 5]=some (.fn (.func 195) [] [],[]):=by
 rw [qaa Tryz.func132 rfl rfl Tryz.results132 qlm.1 rfl rfl (by kernel_rfl)]
 simp -implicitDefEqProofs -dsimp +contextual (maxSteps:=9999999) (disch:=first | omega | simp only [go_sem]<;>omega | refine ib ?_;kernel_rfl) only [go_sem,seval,↓reduceIte]
theorem qHQ:fn C 132 [] [.int .i64 6]=some (.fn (.func 196) [] [],[]):=by
 rw [qaa Tryz.func132 rfl rfl Tryz.results132 qlm.1 rfl rfl (by kernel_rfl)]
 simp -implicitDefEqProofs -dsimp +contextual (maxSteps:=9999999) (disch:=first | omega | simp only [go_sem]<;>omega | refine ib ?_;kernel_rfl) only [go_sem,seval,↓reduceIte]
theorem qHR:fn C 132 [] [.int .i64 7]=some (.fn (.func 197) [] [],[]):=by
 rw [qaa Tryz.func132 rfl rfl Tryz.results132 qlm.1 rfl rfl (by kernel_rfl)]
 simp -implicitDefEqProofs -dsimp +contextual (maxSteps:=9999999) (disch:=first | omega | simp only [go_sem]<;>omega | refine ib ?_;kernel_rfl) only [go_sem,seval,↓reduceIte]
theorem qHS:fn C 132 [] [.int .i64 9]=some (.fn (.func 198) [] [],[]):=by
 rw [qaa Tryz.func132 rfl rfl Tryz.results132 qlm.1 rfl rfl (by kernel_rfl)]
 simp -implicitDefEqProofs -dsimp +contextual (maxSteps:=9999999) (disch:=first | omega | simp only [go_sem]<;>omega | refine ib ?_;kernel_rfl) only [go_sem,seval,↓reduceIte]
theorem qHT (w:Int) (h2:(w=2)=False) (h3:(w=3)=False) (h5:(w=5)=False) (h6:(w=6)=False) (h7:(w=7)=False) (h9:(w=9)=False):fn C 132 [] [.int .i64 w]=some (.fn (.func 131) [] [],[]):=by
 rw [qaa Tryz.func132 rfl rfl Tryz.results132 qlm.1 rfl rfl (by kernel_rfl)]
 simp -implicitDefEqProofs -dsimp +contextual (maxSteps:=9999999) (disch:=first | omega | simp only [go_sem]<;>omega | refine ib ?_;kernel_rfl) only [go_sem,seval,↓reduceIte,h2,h3,h5,h6,h7,h9]
theorem eN0 (n:Nd) (p:Pd) (e:En) (m:Ms) (h:n.mid 1000000):fn C 131 [] [nwA n p e m]=some (qaU (n,[]),[]):=by
 have cp:=e13 n h
 rw [qaa Tryz.func131 rfl rfl Tryz.results131 qFt.1 rfl rfl (by kernel_rfl)]
 simp -implicitDefEqProofs -dsimp +contextual (maxSteps:=9999999) (disch:=first | omega | simp only [go_sem]<;>omega | refine ib ?_;kernel_rfl) only [go_sem,seval,↓reduceIte,cp]
theorem eN2 (n:Nd) (p:Pd) (e:En) (m:Ms) (h:LrnOk n e m):fn C 193 [] [nwA n p e m]=some (qaU (n,qdu n m.ents),[]):=by
 have cp:=e13 n (h.o.k.md.le (by omega))
 have me:=e48 n m.ents (h.o.k.md.le (by omega)) (Nat.le_trans h.el (by omega)) h.ef h.f.gk
 generalize qdu n m.ents=R at *
 rw [qaa Tryz.func193 rfl rfl Tryz.results193 qF4.1 rfl rfl (by kernel_rfl)]
 simp -implicitDefEqProofs -dsimp +contextual (maxSteps:=9999999) (disch:=first | omega | simp only [go_sem]<;>omega | refine ib ?_;kernel_rfl) only [go_sem,seval,↓reduceIte,cp,me]
theorem eN3 (n:Nd) (p:Pd) (e:En) (m:Ms) (h:LrnOk n e m):fn C5 194 [] [nwA n p e m]=some (qaU (qau n e,[]),[]):=by
 have he:=(qHM 34 (by decide) _ _).trans (qIn n e (h.o.k.md.le (by omega)) h.f h.e)
 generalize qau n e=d at *
 rw [qaa (C:=C5) Tryz.func194 rfl rfl Tryz.results194 (show (C5).M.loc 194=_ from qF5.1) rfl rfl (by kernel_rfl)]
 simp -implicitDefEqProofs -dsimp +contextual (maxSteps:=9999999) (disch:=first | omega | simp only [go_sem]<;>omega | refine ib ?_;kernel_rfl) only [go_sem,seval,↓reduceIte,he]
def qnP (n:Nd) (p:Pd) (e:En) (m:Ms):Nd×List Ac:=match m.ents with | [x]=>qc2 n p.job e x | _=>(n,[])
theorem qhC {n:Nd} {p:Pd} {e x:En} {m:Ms} (h:m.ents=[x]):qnP n p e m=qc2 n p.job e x:=by unfold qnP;rw [h]
theorem qjG {n:Nd} {p:Pd} {e:En} {m:Ms} (h:¬m.ents.length=1):qnP n p e m=(n,[]):=by
 unfold qnP
 split
 ·rename_i x hx;rw [hx]at h;exact absurd rfl h
 ·rfl
theorem eN5 (n:Nd) (p:Pd) (e:En) (m:Ms) (h:LrnOk n e m):fn C5 195 [] [nwA n p e m]=some (qaU (qnP n p e m),[]):=by
 by_cases hl:m.ents.length=1
 ·obtain ⟨x,hx⟩:=List.length_eq_one_iff.1 hl
  have xf:=h.ef x (by rw [hx];exact List.mem_singleton.2 rfl)
  have fo:=(qqM 23 (by decide) (by decide) _ _).trans (qHL n p.job e x h.o.k h.e.ok.id xf.ok xf.n xf.t h.f.gk)
  rw [qhC hx]
  generalize qc2 n p.job e x=q at *
  obtain ⟨d,acts⟩:=q
  simp only [aNd,Nd.cs]at fo
  rw [qaa (C:=C5) Tryz.func195 rfl rfl Tryz.results195 (show (C5).M.loc 195=_ from qCA.1) rfl rfl (by kernel_rfl)]
  simp -implicitDefEqProofs -dsimp +contextual (maxSteps:=9999999) (disch:=first | omega | simp only [go_sem]<;>omega | refine ib ?_;kernel_rfl) only [go_sem,seval,↓reduceIte,hx,fo]
 ·rw [qjG hl]
  have hl':=eq_false hl
  have n0:=eN0 n p e m (h.o.k.md.le (by omega))
  rw [qaa (C:=C5) Tryz.func195 rfl rfl Tryz.results195 (show (C5).M.loc 195=_ from qCA.1) rfl rfl (by kernel_rfl)]
  simp -implicitDefEqProofs -dsimp +contextual (maxSteps:=9999999) (disch:=first | omega | simp only [go_sem]<;>omega | refine ib ?_;kernel_rfl) only [go_sem,seval,↓reduceIte,hl',n0]
theorem eN6 (n:Nd) (p:Pd) (e:En) (m:Ms) (h:LrnOk n e m):fn C5 196 [] [nwA n p e m]=some (qaU (qcP n p.job m),[]):=by
 have fo:=(qqM 25 (by decide) (by decide) _ _).trans (qHK n p.job m h.o.k)
 generalize qcP n p.job m=q at *
 obtain ⟨d,acts⟩:=q
 simp only [aNd,Nd.cs]at fo
 rw [qaa (C:=C5) Tryz.func196 rfl rfl Tryz.results196 (show (C5).M.loc 196=_ from qF6.1) rfl rfl (by kernel_rfl)]
 simp -implicitDefEqProofs -dsimp +contextual (maxSteps:=9999999) (disch:=first | omega | simp only [go_sem]<;>omega | refine ib ?_;kernel_rfl) only [go_sem,seval,↓reduceIte,fo]
theorem eN7 (n:Nd) (p:Pd) (e:En) (m:Ms) (h:LrnOk n e m):fn C5 197 [] [nwA n p e m]=some (qaU (qca n p.job (decide (m.err=0))),[]):=by
 have fo:=((qqM 243 (by decide) (by decide) _ _).trans (qyc 243 (by decide) _ _)).trans (qIj n p.job m.err (h.o.k.md.le (by omega)))
 generalize qca n p.job (decide (m.err=0))=q at *
 obtain ⟨d,acts⟩:=q
 unfold qeq at fo
 rw [Nd.ocs_eq]at fo
 rw [qaa (C:=C5) Tryz.func197 rfl rfl Tryz.results197 (show (C5).M.loc 197=_ from qF7.1) rfl rfl (by kernel_rfl)]
 simp -implicitDefEqProofs -dsimp +contextual (maxSteps:=9999999) (disch:=first | omega | simp only [go_sem]<;>omega | refine ib ?_;kernel_rfl) only [go_sem,seval,↓reduceIte,fo]
theorem eN9 (n:Nd) (p:Pd) (e:En) (m:Ms) (h:LrnOk n e m):fn C 198 [] [nwA n p e m]=some (qaU (qn1 n m,[]),[]):=by
 have cp:=e13 n (h.o.k.md.le (by omega))
 have e1:=qPo n.items m.items (Nat.le_trans h.o.k.md.il (by omega)) h.il h.ik
 unfold qn1
 by_cases h0:m.err=0
 ·rw [if_pos h0]
  have h0':=eq_true h0
  rw [qaa Tryz.func198 rfl rfl Tryz.results198 qCB.1 rfl rfl (by kernel_rfl)]
  simp -implicitDefEqProofs -dsimp +contextual (maxSteps:=9999999) (disch:=first | omega | simp only [go_sem]<;>omega | refine ib ?_;kernel_rfl) only [go_sem,seval,↓reduceIte,cp,e1,h0']
 ·rw [if_neg h0]
  have h0':=eq_false h0
  rw [qaa Tryz.func198 rfl rfl Tryz.results198 qCB.1 rfl rfl (by kernel_rfl)]
  simp -implicitDefEqProofs -dsimp +contextual (maxSteps:=9999999) (disch:=first | omega | simp only [go_sem]<;>omega | refine ib ?_;kernel_rfl) only [go_sem,seval,↓reduceIte,cp,e1,h0']
theorem qcQ {n:Nd} {p:Pd} {e:En} {m:Ms} (h:qaP p.m.kind=0∨¬qaP p.m.kind=m.kind):qcS n p e m=(n,[]):=by
 unfold qcS
 rcases h with h | h
 ·rw [if_pos h]
 ·by_cases h0:qaP p.m.kind=0
  ·rw [if_pos h0]
  ·rw [if_neg h0,if_neg h]
def qHU (n:Nd) (p:Pd) (e:En) (m:Ms):Nd×List Ac:=
 if p.why=2 then (n,qdu n m.ents)
 else if p.why=3 then (qau n e,[])
 else if p.why=5 then qnP n p e m
 else if p.why=6 then qcP n p.job m
 else if p.why=7 then qca n p.job (decide (m.err=0))
 else if p.why=9 then (qn1 n m,[])
 else (n,[])
theorem qgN {n:Nd} {p:Pd} {e:En} {m:Ms} (h0:¬qaP p.m.kind=0) (h:qaP p.m.kind=m.kind):qcS n p e m=qHU n p e m:=by
 unfold qcS;rw [if_neg h0,if_pos h];rfl
theorem qjH (n:Nd) (p:Pd) (e:En) (m:Ms) (h:LrnOk n e m):fn C5 43 [] [(aNd n),.agg [.int .i64 p.rid,.int .i64 p.why,.int .i64 p.job,.int .i64 p.til,.int .i64 p.tries,.int .u64 (p.session:Int),.str p.to.name,.int .u64 (p.to.id:Int),.int .i64 p.to.fr,.int .i64 p.to.un,.int .i64 p.to.ix,.str p.to.tag,.int .i64 p.m.kind,.int .i64 p.m.rid,.int .i64 p.m.ver,.int .i64 p.m.err,.int .u64 (p.m.id:Int),.bool p.m.has,.bool p.m.gone,.str p.m.key,.str p.m.val,.slice 6 (p.m.ents.map En.cs),.slice 4 (p.m.items.map It.cs)],.agg [.str e.name,.int .u64 (e.id:Int),.int .i64 e.fr,.int .i64 e.un,.int .i64 e.ix,.str e.tag],.agg [.int .i64 m.kind,.int .i64 m.rid,.int .i64 m.ver,.int .i64 m.err,.int .u64 (m.id:Int),.bool m.has,.bool m.gone,.str m.key,.str m.val,.slice 6 (m.ents.map En.cs),.slice 4 (m.items.map It.cs)]]=some (qaU (qcS n p e m),[]):=by
 have k0:=qPB p.m.kind
 have n0:=eN0 n p e m (h.o.k.md.le (by omega))
 unfold qaU at n0
 by_cases h0:qaP p.m.kind=0
 ·rw [qcQ (.inl h0)]
  rw [h0]at k0
  rw [qaa (C:=C5) Tryz.func43 rfl rfl Tryz.results43 (show (C5).M.loc 43=_ from quV.1) rfl rfl (by kernel_rfl)]
  simp -implicitDefEqProofs -dsimp +contextual (maxSteps:=9999999) (disch:=first | omega | simp only [go_sem]<;>omega | refine ib ?_;kernel_rfl) only [go_sem,seval,↓reduceIte,k0,n0]
 have h0':=eq_false h0
 by_cases h1:qaP p.m.kind=m.kind
 ·rw [qgN h0 h1]
  have h1':=eq_true h1
  generalize qaP p.m.kind=kk at *
  unfold qHU
  by_cases h2:p.why=2
  ·rw [if_pos h2]
   have dv:=qHN
   rw [←h2]at dv
   have nv:=eN2 n p e m h
   generalize ((n,qdu n m.ents):Nd×List Ac)=q at nv ⊢
   obtain ⟨d,acts⟩:=q
   unfold qaU at nv
   simp only [aNd,Nd.cs]at nv
   rw [qaa (C:=C5) Tryz.func43 rfl rfl Tryz.results43 (show (C5).M.loc 43=_ from quV.1) rfl rfl (by kernel_rfl)]
   simp -implicitDefEqProofs -dsimp +contextual (maxSteps:=9999999) (disch:=first | omega | simp only [go_sem]<;>omega | refine ib ?_;kernel_rfl) only [go_sem,seval,↓reduceIte,k0,h0',h1',dv,nv]
  rw [if_neg h2]
  by_cases h3:p.why=3
  ·rw [if_pos h3]
   have dv:=qHO
   rw [←h3]at dv
   have nv:=eN3 n p e m h
   generalize ((qau n e,[]):Nd×List Ac)=q at nv ⊢
   obtain ⟨d,acts⟩:=q
   unfold qaU at nv
   simp only [aNd,Nd.cs]at nv
   rw [qaa (C:=C5) Tryz.func43 rfl rfl Tryz.results43 (show (C5).M.loc 43=_ from quV.1) rfl rfl (by kernel_rfl)]
   simp -implicitDefEqProofs -dsimp +contextual (maxSteps:=9999999) (disch:=first | omega | simp only [go_sem]<;>omega | refine ib ?_;kernel_rfl) only [go_sem,seval,↓reduceIte,k0,h0',h1',dv,nv]
  rw [if_neg h3]
  by_cases h5:p.why=5
  ·rw [if_pos h5]
   have dv:=qHP
   rw [←h5]at dv
   have nv:=eN5 n p e m h
   generalize (qnP n p e m:Nd×List Ac)=q at nv ⊢
   obtain ⟨d,acts⟩:=q
   unfold qaU at nv
   simp only [aNd,Nd.cs]at nv
   rw [qaa (C:=C5) Tryz.func43 rfl rfl Tryz.results43 (show (C5).M.loc 43=_ from quV.1) rfl rfl (by kernel_rfl)]
   simp -implicitDefEqProofs -dsimp +contextual (maxSteps:=9999999) (disch:=first | omega | simp only [go_sem]<;>omega | refine ib ?_;kernel_rfl) only [go_sem,seval,↓reduceIte,k0,h0',h1',dv,nv]
  rw [if_neg h5]
  by_cases h6:p.why=6
  ·rw [if_pos h6]
   have dv:=qHQ
   rw [←h6]at dv
   have nv:=eN6 n p e m h
   generalize (qcP n p.job m:Nd×List Ac)=q at nv ⊢
   obtain ⟨d,acts⟩:=q
   unfold qaU at nv
   simp only [aNd,Nd.cs]at nv
   rw [qaa (C:=C5) Tryz.func43 rfl rfl Tryz.results43 (show (C5).M.loc 43=_ from quV.1) rfl rfl (by kernel_rfl)]
   simp -implicitDefEqProofs -dsimp +contextual (maxSteps:=9999999) (disch:=first | omega | simp only [go_sem]<;>omega | refine ib ?_;kernel_rfl) only [go_sem,seval,↓reduceIte,k0,h0',h1',dv,nv]
  rw [if_neg h6]
  by_cases h7:p.why=7
  ·rw [if_pos h7]
   have dv:=qHR
   rw [←h7]at dv
   have nv:=eN7 n p e m h
   generalize (qca n p.job (decide (m.err=0)):Nd×List Ac)=q at nv ⊢
   obtain ⟨d,acts⟩:=q
   unfold qaU at nv
   simp only [aNd,Nd.cs]at nv
   rw [qaa (C:=C5) Tryz.func43 rfl rfl Tryz.results43 (show (C5).M.loc 43=_ from quV.1) rfl rfl (by kernel_rfl)]
   simp -implicitDefEqProofs -dsimp +contextual (maxSteps:=9999999) (disch:=first | omega | simp only [go_sem]<;>omega | refine ib ?_;kernel_rfl) only [go_sem,seval,↓reduceIte,k0,h0',h1',dv,nv]
  rw [if_neg h7]
  by_cases h9:p.why=9
  ·rw [if_pos h9]
   have dv:=qHS
   rw [←h9]at dv
   have nv:=eN9 n p e m h
   generalize ((qn1 n m,[]):Nd×List Ac)=q at nv ⊢
   obtain ⟨d,acts⟩:=q
   unfold qaU at nv
   simp only [aNd,Nd.cs]at nv
   rw [qaa (C:=C5) Tryz.func43 rfl rfl Tryz.results43 (show (C5).M.loc 43=_ from quV.1) rfl rfl (by kernel_rfl)]
   simp -implicitDefEqProofs -dsimp +contextual (maxSteps:=9999999) (disch:=first | omega | simp only [go_sem]<;>omega | refine ib ?_;kernel_rfl) only [go_sem,seval,↓reduceIte,k0,h0',h1',dv,nv]
  rw [if_neg h9]
  have dv:=qHT p.why (eq_false h2) (eq_false h3) (eq_false h5) (eq_false h6) (eq_false h7) (eq_false h9)
  rw [qaa (C:=C5) Tryz.func43 rfl rfl Tryz.results43 (show (C5).M.loc 43=_ from quV.1) rfl rfl (by kernel_rfl)]
  simp -implicitDefEqProofs -dsimp +contextual (maxSteps:=9999999) (disch:=first | omega | simp only [go_sem]<;>omega | refine ib ?_;kernel_rfl) only [go_sem,seval,↓reduceIte,k0,h0',h1',dv,n0]
 ·rw [qcQ (.inr h1)]
  have h1':=eq_false h1
  generalize qaP p.m.kind=kk at *
  rw [qaa (C:=C5) Tryz.func43 rfl rfl Tryz.results43 (show (C5).M.loc 43=_ from quV.1) rfl rfl (by kernel_rfl)]
  simp -implicitDefEqProofs -dsimp +contextual (maxSteps:=9999999) (disch:=first | omega | simp only [go_sem]<;>omega | refine ib ?_;kernel_rfl) only [go_sem,seval,↓reduceIte,k0,h0',h1',n0]
theorem qyw (n:Nd) (p:Pd) (e:En) (m:Ms) (h:LrnOk n e m):fn C 44 [] [(aNd n),.agg [.int .i64 p.rid,.int .i64 p.why,.int .i64 p.job,.int .i64 p.til,.int .i64 p.tries,.int .u64 (p.session:Int),.str p.to.name,.int .u64 (p.to.id:Int),.int .i64 p.to.fr,.int .i64 p.to.un,.int .i64 p.to.ix,.str p.to.tag,.int .i64 p.m.kind,.int .i64 p.m.rid,.int .i64 p.m.ver,.int .i64 p.m.err,.int .u64 (p.m.id:Int),.bool p.m.has,.bool p.m.gone,.str p.m.key,.str p.m.val,.slice 6 (p.m.ents.map En.cs),.slice 4 (p.m.items.map It.cs)],.agg [.str e.name,.int .u64 (e.id:Int),.int .i64 e.fr,.int .i64 e.un,.int .i64 e.ix,.str e.tag],.agg [.int .i64 m.kind,.int .i64 m.rid,.int .i64 m.ver,.int .i64 m.err,.int .u64 (m.id:Int),.bool m.has,.bool m.gone,.str m.key,.str m.val,.slice 6 (m.ents.map En.cs),.slice 4 (m.items.map It.cs)]]=some (qaU (qcS n p e m),[]):=by
 have k0:=qPC p.m.kind
 by_cases h0:qaP p.m.kind=0
 ·rw [qcQ (.inl h0)]
  rw [h0]at k0
  rw [qaa Tryz.func44 rfl rfl Tryz.results44 qrh.1 rfl rfl (by kernel_rfl)]
  simp -implicitDefEqProofs -dsimp +contextual (maxSteps:=9999999) (disch:=first | omega | simp only [go_sem]<;>omega | refine ib ?_;kernel_rfl) only [go_sem,seval,↓reduceIte,k0]
 have h0':=eq_false h0
 by_cases h1:qaP p.m.kind=m.kind
 ·rw [qgN h0 h1]
  have h1':=eq_true h1
  generalize qaP p.m.kind=kk at *
  unfold qHU
  by_cases h2:p.why=2
  ·rw [if_pos h2]
   have nv:=e49 n m.ents (h.o.k.md.le (by omega)) (Nat.le_trans h.el (by omega)) h.ef h.f.gk
   generalize qdu n m.ents=R at *
   rw [qaa Tryz.func44 rfl rfl Tryz.results44 qrh.1 rfl rfl (by kernel_rfl)]
   simp -implicitDefEqProofs -dsimp +contextual (maxSteps:=9999999) (disch:=first | omega | simp only [go_sem]<;>omega | refine ib ?_;kernel_rfl) only [go_sem,seval,↓reduceIte,k0,h0',h1',h2,nv]
  rw [if_neg h2]
  by_cases h3:p.why=3
  ·rw [if_pos h3]
   have nv:=e35 n e h.f h.e
   generalize qau n e=d at *
   rw [qaa Tryz.func44 rfl rfl Tryz.results44 qrh.1 rfl rfl (by kernel_rfl)]
   simp -implicitDefEqProofs -dsimp +contextual (maxSteps:=9999999) (disch:=first | omega | simp only [go_sem]<;>omega | refine ib ?_;kernel_rfl) only [go_sem,seval,↓reduceIte,k0,h0',h1',h3,nv]
  rw [if_neg h3]
  by_cases h5:p.why=5
  ·rw [if_pos h5]
   by_cases hl:m.ents.length=1
   ·obtain ⟨x,hx⟩:=List.length_eq_one_iff.1 hl
    have xf:=h.ef x (by rw [hx];exact List.mem_singleton.2 rfl)
    have nv:=qHG n p.job e x h.o h.e.ok.id xf.ok xf.n xf.t h.f.gk h.l
    rw [qhC hx]
    generalize qc2 n p.job e x=q at *
    obtain ⟨d,acts⟩:=q
    unfold qaU at nv
    simp only [aNd,Nd.cs]at nv
    rw [qaa Tryz.func44 rfl rfl Tryz.results44 qrh.1 rfl rfl (by kernel_rfl)]
    simp -implicitDefEqProofs -dsimp +contextual (maxSteps:=9999999) (disch:=first | omega | simp only [go_sem]<;>omega | refine ib ?_;kernel_rfl) only [go_sem,seval,↓reduceIte,k0,h0',h1',h5,hx,nv]
   ·rw [qjG hl]
    have hl':=eq_false hl
    rw [qaa Tryz.func44 rfl rfl Tryz.results44 qrh.1 rfl rfl (by kernel_rfl)]
    simp -implicitDefEqProofs -dsimp +contextual (maxSteps:=9999999) (disch:=first | omega | simp only [go_sem]<;>omega | refine ib ?_;kernel_rfl) only [go_sem,seval,↓reduceIte,k0,h0',h1',h5,hl']
  rw [if_neg h5]
  by_cases h6:p.why=6
  ·rw [if_pos h6]
   have w':=h6
   have nv:=qHE n p.job m h.o
   generalize (qcP n p.job m:Nd×List Ac)=q at nv ⊢
   obtain ⟨d,acts⟩:=q
   unfold qaU at nv
   simp only [aNd,Nd.cs]at nv
   rw [qaa Tryz.func44 rfl rfl Tryz.results44 qrh.1 rfl rfl (by kernel_rfl)]
   simp -implicitDefEqProofs -dsimp +contextual (maxSteps:=9999999) (disch:=first | omega | simp only [go_sem]<;>omega | refine ib ?_;kernel_rfl) only [go_sem,seval,↓reduceIte,k0,h0',h1',w',nv]
  rw [if_neg h6]
  by_cases h7:p.why=7
  ·rw [if_pos h7]
   have w':=h7
   have nv:=qOF n p.job m.err (h.o.k.md.le (by omega))
   generalize (qca n p.job (decide (m.err=0)):Nd×List Ac)=q at nv ⊢
   obtain ⟨d,acts⟩:=q
   unfold qaU at nv
   simp only [aNd,Nd.cs]at nv
   rw [qaa Tryz.func44 rfl rfl Tryz.results44 qrh.1 rfl rfl (by kernel_rfl)]
   simp -implicitDefEqProofs -dsimp +contextual (maxSteps:=9999999) (disch:=first | omega | simp only [go_sem]<;>omega | refine ib ?_;kernel_rfl) only [go_sem,seval,↓reduceIte,k0,h0',h1',w',nv]
  rw [if_neg h7]
  by_cases h9:p.why=9
  ·rw [if_pos h9]
   have nv:=qPp n.items m.items (Nat.le_trans h.o.k.md.il (by omega)) h.il h.nk h.ik
   unfold qn1
   by_cases he:m.err=0
   ·rw [if_pos he]
    have he':=eq_true he
    rw [qaa Tryz.func44 rfl rfl Tryz.results44 qrh.1 rfl rfl (by kernel_rfl)]
    simp -implicitDefEqProofs -dsimp +contextual (maxSteps:=9999999) (disch:=first | omega | simp only [go_sem]<;>omega | refine ib ?_;kernel_rfl) only [go_sem,seval,↓reduceIte,k0,h0',h1',h9,he',nv]
   ·rw [if_neg he]
    have he':=eq_false he
    rw [qaa Tryz.func44 rfl rfl Tryz.results44 qrh.1 rfl rfl (by kernel_rfl)]
    simp -implicitDefEqProofs -dsimp +contextual (maxSteps:=9999999) (disch:=first | omega | simp only [go_sem]<;>omega | refine ib ?_;kernel_rfl) only [go_sem,seval,↓reduceIte,k0,h0',h1',h9,he']
  rw [if_neg h9]
  have h2':=eq_false h2;have h3':=eq_false h3;have h5':=eq_false h5;have h6':=eq_false h6;have h7':=eq_false h7;have h9':=eq_false h9
  rw [qaa Tryz.func44 rfl rfl Tryz.results44 qrh.1 rfl rfl (by kernel_rfl)]
  simp -implicitDefEqProofs -dsimp +contextual (maxSteps:=9999999) (disch:=first | omega | simp only [go_sem]<;>omega | refine ib ?_;kernel_rfl) only [go_sem,seval,↓reduceIte,k0,h0',h1',h2',h3',h5',h6',h7',h9']
 ·rw [qcQ (.inr h1)]
  have h1':=eq_false h1
  generalize qaP p.m.kind=kk at *
  rw [qaa Tryz.func44 rfl rfl Tryz.results44 qrh.1 rfl rfl (by kernel_rfl)]
  simp -implicitDefEqProofs -dsimp +contextual (maxSteps:=9999999) (disch:=first | omega | simp only [go_sem]<;>omega | refine ib ?_;kernel_rfl) only [go_sem,seval,↓reduceIte,k0,h0',h1']
def qyx (q:Nd) (p:Pd):Nd×List Ac:=
 if p.why=5∨p.why=6 then qb2 q p.job
 else if p.why=7 then qca q p.job false
 else if p.why=9 then ({ q with ready:=q.ready|| decide (q.list.length=0) },[])
 else (q,[])
theorem qjI (n:Nd) (p:Pd):qq1 n p=qyx (qam n p.to.name) p:=rfl
theorem qhD {n:Nd} (name:List UInt8) (h:CliK n):CliK (qam n name):=
 ⟨qiS name h.md,h.me,fun p hp=>h.li p (List.mem_filter.1 hp).1,h.clock,h.jk,h.ji⟩
theorem qHV (n:Nd) (p:Pd) (h:CliK n):fn C5 46 [] [(aNd n),.agg [.int .i64 p.rid,.int .i64 p.why,.int .i64 p.job,.int .i64 p.til,.int .i64 p.tries,.int .u64 (p.session:Int),.str p.to.name,.int .u64 (p.to.id:Int),.int .i64 p.to.fr,.int .i64 p.to.un,.int .i64 p.to.ix,.str p.to.tag,.int .i64 p.m.kind,.int .i64 p.m.rid,.int .i64 p.m.ver,.int .i64 p.m.err,.int .u64 (p.m.id:Int),.bool p.m.has,.bool p.m.gone,.str p.m.key,.str p.m.val,.slice 6 (p.m.ents.map En.cs),.slice 4 (p.m.items.map It.cs)]]=some (qaU (qq1 n p),[]):=by
 have fg:=(qHM 36 (by decide) _ _).trans (qDF n p.to.name (h.md.le (by omega)))
 have hq:=qhD p.to.name h
 rw [qjI]
 generalize qam n p.to.name=Q at *
 have fa:=(qqM 27 (by decide) (by decide) _ _).trans (qCP Q p.job hq)
 have lo:=((qqM 135 (by decide) (by decide) _ _).trans (qyc 135 (by decide) _ _)).trans (qLk Q p.job (hq.md.le (by omega)))
 unfold qyx
 by_cases h5:p.why=5∨p.why=6
 ·rw [if_pos h5]
  generalize qb2 Q p.job=q at *
  obtain ⟨d,acts⟩:=q
  simp only [aNd,Nd.cs]at fa
  rcases h5 with h5 | h5
  ·rw [qaa (C:=C5) Tryz.func46 rfl rfl Tryz.results46 (show (C5).M.loc 46=_ from qzu.1) rfl rfl (by kernel_rfl)]
   simp -implicitDefEqProofs -dsimp +contextual (maxSteps:=9999999) (disch:=first | omega | simp only [go_sem]<;>omega | refine ib ?_;kernel_rfl) only [go_sem,seval,↓reduceIte,fg,fa,h5]
  ·rw [qaa (C:=C5) Tryz.func46 rfl rfl Tryz.results46 (show (C5).M.loc 46=_ from qzu.1) rfl rfl (by kernel_rfl)]
   simp -implicitDefEqProofs -dsimp +contextual (maxSteps:=9999999) (disch:=first | omega | simp only [go_sem]<;>omega | refine ib ?_;kernel_rfl) only [go_sem,seval,↓reduceIte,fg,fa,h5]
 rw [if_neg h5]
 have h5':=eq_false (fun h'=>h5 (.inl h'))
 have h6':=eq_false (fun h'=>h5 (.inr h'))
 by_cases h7:p.why=7
 ·rw [if_pos h7]
  generalize qca Q p.job false=q at *
  obtain ⟨d,acts⟩:=q
  unfold qeq at lo
  rw [Nd.ocs_eq]at lo
  rw [qaa (C:=C5) Tryz.func46 rfl rfl Tryz.results46 (show (C5).M.loc 46=_ from qzu.1) rfl rfl (by kernel_rfl)]
  simp -implicitDefEqProofs -dsimp +contextual (maxSteps:=9999999) (disch:=first | omega | simp only [go_sem]<;>omega | refine ib ?_;kernel_rfl) only [go_sem,seval,↓reduceIte,fg,lo,h7]
 rw [if_neg h7]
 have h7':=eq_false h7
 by_cases h9:p.why=9
 ·rw [if_pos h9]
  cases hr:Q.ready with
  | true=>
   simp only [aNd]at fg
   rw [hr]at fg
   rw [qaa (C:=C5) Tryz.func46 rfl rfl Tryz.results46 (show (C5).M.loc 46=_ from qzu.1) rfl rfl (by kernel_rfl)]
   simp -implicitDefEqProofs -dsimp +contextual (maxSteps:=9999999) (disch:=first | omega | simp only [go_sem]<;>omega | refine ib ?_;kernel_rfl) only [go_sem,seval,↓reduceIte,fg,h9,hr]
  | false=>
   simp only [aNd]at fg
   rw [hr]at fg
   by_cases hl:Q.list.length=0
   ·have hl':=eq_true hl
    rw [decide_eq_true hl]
    rw [qaa (C:=C5) Tryz.func46 rfl rfl Tryz.results46 (show (C5).M.loc 46=_ from qzu.1) rfl rfl (by kernel_rfl)]
    simp -implicitDefEqProofs -dsimp +contextual (maxSteps:=9999999) (disch:=first | omega | simp only [go_sem]<;>omega | refine ib ?_;kernel_rfl) only [go_sem,seval,↓reduceIte,fg,h9,hr,hl']
   ·have hl':=eq_false hl
    rw [decide_eq_false hl]
    rw [qaa (C:=C5) Tryz.func46 rfl rfl Tryz.results46 (show (C5).M.loc 46=_ from qzu.1) rfl rfl (by kernel_rfl)]
    simp -implicitDefEqProofs -dsimp +contextual (maxSteps:=9999999) (disch:=first | omega | simp only [go_sem]<;>omega | refine ib ?_;kernel_rfl) only [go_sem,seval,↓reduceIte,fg,h9,hr,hl']
 rw [if_neg h9]
 have h9':=eq_false h9
 rw [qaa (C:=C5) Tryz.func46 rfl rfl Tryz.results46 (show (C5).M.loc 46=_ from qzu.1) rfl rfl (by kernel_rfl)]
 simp -implicitDefEqProofs -dsimp +contextual (maxSteps:=9999999) (disch:=first | omega | simp only [go_sem]<;>omega | refine ib ?_;kernel_rfl) only [go_sem,seval,↓reduceIte,fg,h5',h6',h7',h9']
theorem qHW (n:Nd) (p:Pd) (h:CliOk n) (hf:n.fine):fn C 47 [] [(aNd n),.agg [.int .i64 p.rid,.int .i64 p.why,.int .i64 p.job,.int .i64 p.til,.int .i64 p.tries,.int .u64 (p.session:Int),.str p.to.name,.int .u64 (p.to.id:Int),.int .i64 p.to.fr,.int .i64 p.to.un,.int .i64 p.to.ix,.str p.to.tag,.int .i64 p.m.kind,.int .i64 p.m.rid,.int .i64 p.m.ver,.int .i64 p.m.err,.int .u64 (p.m.id:Int),.bool p.m.has,.bool p.m.gone,.str p.m.key,.str p.m.val,.slice 6 (p.m.ents.map En.cs),.slice 4 (p.m.items.map It.cs)]]=some (qaU (qq1 n p),[]):=by
 have fg:=e37 n p.to.name hf
 have hq:CliOk (qam n p.to.name):=⟨qhD p.to.name h.k,h.jobId⟩
 rw [qjI]
 generalize qam n p.to.name=Q at *
 have fa:=qCW Q p.job hq
 have lo:=qOG Q p.job (hq.k.md.le (by omega))
 unfold qaU at fa lo
 unfold qyx
 by_cases h5:p.why=5∨p.why=6
 ·rw [if_pos h5]
  generalize qb2 Q p.job=q at *
  obtain ⟨d,acts⟩:=q
  simp only [aNd,Nd.cs]at fa
  rcases h5 with h5 | h5
  ·rw [qaa Tryz.func47 rfl rfl Tryz.results47 qxT.1 rfl rfl (by kernel_rfl)]
   simp -implicitDefEqProofs -dsimp +contextual (maxSteps:=9999999) (disch:=first | omega | simp only [go_sem]<;>omega | refine ib ?_;kernel_rfl) only [go_sem,seval,↓reduceIte,fg,fa,h5]
  ·rw [qaa Tryz.func47 rfl rfl Tryz.results47 qxT.1 rfl rfl (by kernel_rfl)]
   simp -implicitDefEqProofs -dsimp +contextual (maxSteps:=9999999) (disch:=first | omega | simp only [go_sem]<;>omega | refine ib ?_;kernel_rfl) only [go_sem,seval,↓reduceIte,fg,fa,h5]
 rw [if_neg h5]
 have h5':=eq_false (fun h'=>h5 (.inl h'))
 have h6':=eq_false (fun h'=>h5 (.inr h'))
 by_cases h7:p.why=7
 ·rw [if_pos h7]
  generalize qca Q p.job false=q at *
  obtain ⟨d,acts⟩:=q
  simp only [aNd,Nd.cs]at lo
  rw [qaa Tryz.func47 rfl rfl Tryz.results47 qxT.1 rfl rfl (by kernel_rfl)]
  simp -implicitDefEqProofs -dsimp +contextual (maxSteps:=9999999) (disch:=first | omega | simp only [go_sem]<;>omega | refine ib ?_;kernel_rfl) only [go_sem,seval,↓reduceIte,fg,lo,h7]
 rw [if_neg h7]
 have h7':=eq_false h7
 by_cases h9:p.why=9
 ·rw [if_pos h9]
  cases hr:Q.ready with
  | true=>
   simp only [aNd]at fg
   rw [hr]at fg
   by_cases hl:Q.list.length=0
   ·have hl':=eq_true hl
    rw [qaa Tryz.func47 rfl rfl Tryz.results47 qxT.1 rfl rfl (by kernel_rfl)]
    simp -implicitDefEqProofs -dsimp +contextual (maxSteps:=9999999) (disch:=first | omega | simp only [go_sem]<;>omega | refine ib ?_;kernel_rfl) only [go_sem,seval,↓reduceIte,fg,h9,hr,hl']
   ·have hl':=eq_false hl
    rw [qaa Tryz.func47 rfl rfl Tryz.results47 qxT.1 rfl rfl (by kernel_rfl)]
    simp -implicitDefEqProofs -dsimp +contextual (maxSteps:=9999999) (disch:=first | omega | simp only [go_sem]<;>omega | refine ib ?_;kernel_rfl) only [go_sem,seval,↓reduceIte,fg,h9,hr,hl']
  | false=>
   simp only [aNd]at fg
   rw [hr]at fg
   by_cases hl:Q.list.length=0
   ·have hl':=eq_true hl
    rw [decide_eq_true hl]
    rw [qaa Tryz.func47 rfl rfl Tryz.results47 qxT.1 rfl rfl (by kernel_rfl)]
    simp -implicitDefEqProofs -dsimp +contextual (maxSteps:=9999999) (disch:=first | omega | simp only [go_sem]<;>omega | refine ib ?_;kernel_rfl) only [go_sem,seval,↓reduceIte,fg,h9,hr,hl']
   ·have hl':=eq_false hl
    rw [decide_eq_false hl]
    rw [qaa Tryz.func47 rfl rfl Tryz.results47 qxT.1 rfl rfl (by kernel_rfl)]
    simp -implicitDefEqProofs -dsimp +contextual (maxSteps:=9999999) (disch:=first | omega | simp only [go_sem]<;>omega | refine ib ?_;kernel_rfl) only [go_sem,seval,↓reduceIte,fg,h9,hr,hl']
 rw [if_neg h9]
 have h9':=eq_false h9
 rw [qaa Tryz.func47 rfl rfl Tryz.results47 qxT.1 rfl rfl (by kernel_rfl)]
 simp -implicitDefEqProofs -dsimp +contextual (maxSteps:=9999999) (disch:=first | omega | simp only [go_sem]<;>omega | refine ib ?_;kernel_rfl) only [go_sem,seval,↓reduceIte,fg,h5',h6',h7',h9']
end Go.Proofs.YtnpkhdjgedeppaaGreatDoor
namespace Go.Proofs.YtnpkhdjgedeppaaGreatDoor
set_option maxHeartbeats 64000000
open Go.Am
set_option linter.unusedSimpArgs false
set_option linter.unusedVariables false
set_option maxRecDepth 100000
attribute [local irreducible] qaC idB qdL
theorem qO3 (k:List UInt8) (e:En) (h:e.ok) (hn:e.name.length≤10000) (hk:k.length≤10000):fn C 130 [] [.str k,.agg [.str e.name,.int .u64 (e.id:Int),.int .i64 e.fr,.int .i64 e.un,.int .i64 e.ix,.str e.tag]]=some (.agg [.str e.name,.int .u64 (e.id:Int),.int .i64 e.fr,.int .i64 e.un,.int .i64 e.ix,.str (qfT k e)],[]):=by
 have e1:=qM2 e h (by omega)
 have e2:=qPQ k (ql5 e) (by omega) (by rw [qhO];omega)
 rw [qfT]
 rw [qaa Tryz.func130 rfl rfl Tryz.results130 qFs.1 rfl rfl (by kernel_rfl)]
 simp -implicitDefEqProofs -dsimp +contextual (maxSteps:=9999999) (disch:=first | omega | simp only [go_sem]<;>omega | refine ib ?_;kernel_rfl) only [go_sem,seval,↓reduceIte,e1,e2]
abbrev qzG:List UInt8:=[107,101,121]
def enW (T:List UInt8):En:={ enZ with name:=[98],un:=9,tag:=T }
def enV:En:={ enZ with name:=[97] }
def ndW:Nd:={ ndZ with me:=enV,gateK:=qzG,clock:=3 }
def pdW:Pd:=⟨0,2,0,0,0,0,enZ,{ msZ with kind:=3 }⟩
def msW (T:List UInt8):Ms:={ msZ with kind:=4,ents:=[enW T,enW T,enV] }
theorem qC8 (T:List UInt8) (hT:T=qfT qzG (enW [])):qaG 0 qzG (enW T) 3=0:=by
 have hl:T.length=32:=by rw [hT];exact qjR _ _
 have hr:qeE (enW T)=true:=by
  unfold qeE
  have:decide ((enW T).tag.length=32)=true:=decide_eq_true hl
  rw [this]
  rfl
 have hs:(enW T).tag=qfT qzG (enW T):=hT
 unfold qaG
 rw [if_pos hr,if_neg (show ¬(enW T).ix<0 by show ¬(0:Int)<0;decide),if_neg (show ¬0<(enW T).ix by show ¬(0:Int)<0;decide),if_pos hs,if_neg (show ¬(3<(enW T).fr∨(enW T).un<3) by show ¬((3:Int)<0∨(9:Int)<3);decide)]
theorem qC9:¬qaG 0 qzG enV 3=0:=by
 have hr:¬qeE enV=true:=by decide
 unfold qaG
 rw [if_neg hr]
 decide
theorem qO4 (T:List UInt8) (hT:T=qfT qzG (enW [])):qcS ndW pdW (enW T) (msW T)=(ndW,[qf2 (enW T)]):=by
 rw [qgN (show ¬qaP 3=0 by decide) (show qaP 3=4 by decide)]
 unfold qHU
 rw [if_pos (show pdW.why=2 from rfl)]
 show (ndW,qet ndW (qet ndW (qet ndW [] (enW T)) (enW T)) enV)=_
 have hv:qaG ndW.gateI ndW.gateK (enW T) ndW.clock=0:=qC8 T hT
 have s1:qet ndW [] (enW T)=[qf2 (enW T)]:=by
  unfold qet qgz
  rw [if_pos hv,if_pos (by rfl)]
  rfl
 have s2:qet ndW [qf2 (enW T)] (enW T)=[qf2 (enW T)]:=by
  unfold qet qgz
  have hb:qy1 ndW [qf2 (enW T)] (enW T)=false:=rfl
  rw [if_pos hv,hb]
  rfl
 have s3:qet ndW [qf2 (enW T)] enV=[qf2 (enW T)]:=by
  unfold qet
  rw [if_neg (show ¬qaG ndW.gateI ndW.gateK enV ndW.clock=0 from qC9)]
 rw [s1,s2,s3]
theorem qO5 (T:List UInt8):qcS ndW pdW (enW T) { msZ with kind:=2 }=(ndW,[]):=qcQ (.inr (by decide))
theorem qDa:ndW.mid 0:=by
 refine ⟨Nat.zero_le _,Nat.zero_le _,Nat.zero_le _,Nat.zero_le _,Nat.zero_le _,Nat.zero_le _,Nat.zero_le _,Nat.zero_le _,Nat.zero_le _,fun p hp=>?_,fun p hp=>?_,fun p hp=>?_,fun p hp=>?_⟩<;>simp [ndW,ndZ]at hp
theorem qyy:ndW.fine:=⟨by decide,by decide,by decide,by decide,by decide,fun p hp=>by simp [ndW,ndZ]at hp,fun p hp=>by simp [ndW,ndZ]at hp⟩
theorem qHX:CliOk ndW:=⟨⟨qDa.le (by omega),by decide,fun p hp=>by simp [ndW,ndZ]at hp,by decide,fun p hp=>by simp [ndW,ndZ]at hp,fun p hp=>by simp [ndW,ndZ]at hp⟩,by decide⟩
theorem qyz:enV.fine:=⟨⟨by decide,by decide,by decide,by decide,by decide,by decide,by decide⟩,by decide,by decide⟩
theorem qzH (T:List UInt8):(enW T).ok:=⟨by show 0≤18446744073709551615;decide,by show _≤(0:Int);decide,by show (0:Int)≤_;decide,by show _≤(9:Int);decide,by show (9:Int)≤_;decide,by show _≤(0:Int);decide,by show (0:Int)≤_;decide⟩
theorem qoF (T:List UInt8) (hT:T.length=32):(enW T).fine:=⟨qzH T,by show 1≤10000;decide,by show T.length≤10000;omega⟩
theorem qHY (T:List UInt8) (hT:T.length=32) (m:Ms) (h1:m.ents.length≤1000) (h2:∀x∈m.ents,x=enW T∨x=enV) (h3:m.items=[]):LrnOk ndW (enW T) m:=
 ⟨qHX,qyy,by decide,qoF T hT,h1,fun x hx=>by
  rcases h2 x hx with rfl | rfl
  ·exact qoF T hT
  ·exact qyz,(by rw [h3];decide),(fun x hx=>by rw [h3]at hx;simp at hx),(fun x hx=>by simp [ndW,ndZ]at hx)⟩
theorem e42:fn C5 42 [] []=some (.bool true,[]):=by
 obtain ⟨T,hT⟩:∃T,T=qfT qzG (enW []):=⟨_,rfl⟩
 have hl:T.length=32:=by rw [hT];exact qjR _ _
 have s1:=(qlI 130 (by decide) _ _).trans (qO3 qzG (enW []) (qzH []) (by decide) (by decide))
 rw [←hT]at s1
 have b1:=qjH ndW pdW (enW T) (msW T) (qHY T hl _ (by show 3≤1000;decide) (fun x hx=>by simp [msW]at hx;omega) rfl)
 have b2:=qjH ndW pdW (enW T) { msZ with kind:=2 } (qHY T hl _ (by show 0≤1000;decide) (fun x hx=>by simp [msZ]at hx) rfl)
 rw [qO4 T hT]at b1
 rw [qO5 T]at b2
 have eqv:=qft (enW T) (enW T)
 clear hT
 simp only [aNd,qaU,Nd.cs,ndW,pdW,enW,enV,msW,qf2,ndZ,enZ,msZ,List.map_nil,List.map_cons,En.cs,Ac.cs,Ms.cs,It.cs,Pd.cs,qaD,Int.cast_ofNat_Int]at b1 b2 s1
 rw [qaa (C:=C5) Tryz.func42 rfl rfl Tryz.results42 (show (C5).M.loc 42=_ from qLT.1) rfl rfl (by kernel_rfl)]
 simp -implicitDefEqProofs -dsimp +contextual (maxSteps:=9999999) (disch:=first | omega | simp only [go_sem]<;>omega | refine ib ?_;kernel_rfl) only [go_sem,seval,↓reduceIte,b1,b2,s1]
theorem qlJ {n:Nd} {a:Ac}:∀(l:List En) (out:List Ac),a∈l.foldl (qet n) out→a∈out∨∃e∈l,a=qf2 e∧qaG n.gateI n.gateK e n.clock=0
 | [],out,h=> .inl h
 | e::l,out,h=>by
  rcases qlJ l _ h with h | ⟨x,hx,h⟩
  ·unfold qet at h
   split at h
   ·rename_i hv
    unfold qgz at h
    split at h
    ·rcases List.mem_append.1 h with h | h
     ·exact .inl h
     ·exact .inr ⟨e,List.mem_cons_self ..,List.mem_singleton.1 h,hv⟩
    ·exact .inl h
   ·exact .inl h
  ·exact .inr ⟨x,List.mem_cons_of_mem _ hx,h⟩
theorem qua (e:En):(qf2 e).m.fit:=⟨Nat.zero_le _,Nat.zero_le _,Nat.zero_le _,Nat.zero_le _,fun e he=>by simp [qf2,msZ]at he,fun x hx=>by simp [qf2,msZ]at hx⟩
theorem qiL (n:Nd) (l:List En):qct l.length (qdu n l):=by
 refine ⟨by have:=qlZ n l l.length;rwa [List.take_length]at this,fun a ha=>?_⟩
 rcases qlJ l [] ha with h | ⟨e,_,rfl,_⟩
 ·simp at h
 ·exact qua e
theorem qyA {n:Nd} {p:Pd} {e:En} {m:Ms} (g:n.good 70) (h:LrnOk n e m) (jm:∀j∈n.jobs,j.key.length≤9223372036854775807∧j.val.length≤9223372036854775807):(qcS n p e m).1.cmp∧qct 2000 (qcS n p e m).2:=by
 have c:n.cmp:=g.m.cmp (by decide) g.d
 have N:qct 2000 []:=qct.nil _
 have K:∀{q:Nd×List Ac},q.1.good (70+70+2)∧qct (70+70+2) q.2→q.1.cmp∧qct 2000 q.2:=fun h=>⟨h.1.m.cmp (by decide) h.1.d,h.2.le (by omega)⟩
 by_cases h0:qaP p.m.kind=0
 ·rw [qcQ (.inl h0)];exact ⟨c,N⟩
 by_cases h1:qaP p.m.kind=m.kind
 ·rw [qgN h0 h1]
  unfold qHU
  split
  ·exact ⟨c,(qiL n m.ents).le (Nat.le_trans h.el (by omega))⟩
  split
  ·have g2:=qq0 e g
   exact ⟨g2.m.cmp (by decide) g2.d,N⟩
  split
  ·by_cases hl:m.ents.length=1
   ·obtain ⟨x,hx⟩:=List.length_eq_one_iff.1 hl
    rw [qhC hx]
    exact K (qnX g (by omega) p.job e x jm)
   ·rw [qjG hl];exact ⟨c,N⟩
  split
  ·exact K (qnY g (by omega) p.job m jm)
  split
  ·have b:=qlQ p.job (decide (m.err=0)) g (by omega)
   exact ⟨b.1.m.cmp (by decide) b.1.d,b.2.le (by omega)⟩
  split
  ·unfold qn1
   split
   ·have hl:=qf1 n.items m.items
    have h1:=g.m.il
    have h2:=h.il
    have c':=quC (n:=n) (qbq n.items m.items).1 g (by decide) (by omega)
    exact ⟨⟨c'.pl,c'.ll,c'.fl,c'.sl,c'.dl,c'.df,c'.il,c'.jl,c'.ja,c'.wl,c'.rl⟩,N⟩
   ·exact ⟨c,N⟩
  ·exact ⟨c,N⟩
 ·rw [qcQ (.inr h1)];exact ⟨c,N⟩
theorem qqN {n:Nd} {p:Pd} (g:n.good 70) (jm:∀j∈n.jobs,j.key.length≤9223372036854775807∧j.val.length≤9223372036854775807):(qq1 n p).1.cmp∧qct 2000 (qq1 n p).2:=by
 have g2:=qnZ p.to.name g
 have c:(qam n p.to.name).cmp:=g2.m.cmp (by decide) g2.d
 have N:qct 2000 []:=qct.nil _
 rw [qjI]
 unfold qyx
 split
 ·have b:=qlS g2 (by omega) p.job jm
  exact ⟨b.1.m.cmp (by decide) b.1.d,b.2.le (by omega)⟩
 split
 ·have b:=qlQ p.job false g2 (by omega)
  exact ⟨b.1.m.cmp (by decide) b.1.d,b.2.le (by omega)⟩
 split
 ·exact ⟨⟨c.pl,c.ll,c.fl,c.sl,c.dl,c.df,c.il,c.jl,c.ja,c.wl,c.rl⟩,N⟩
 ·exact ⟨c,N⟩
end Go.Proofs.YtnpkhdjgedeppaaGreatDoor
namespace Go.Proofs.YtnpkhdjgedeppaaGreatDoor
set_option maxHeartbeats 64000000
open Go.Am
set_option linter.unusedSimpArgs false
set_option linter.unusedVariables false
set_option maxRecDepth 100000
attribute [local irreducible] qaC idB qdL qaG
structure Nd.fineB (n:Nd):Prop where
 me:n.me.fine
 l:∀p∈n.list,p.e.fine
 j:∀j∈n.jobs,j.back.fine
structure Tame (n:Nd) (q:Nd×List Ac):Prop where
 l:q.1.list=n.list
 p:q.1.pred=n.pred
 a:∀a∈q.2,a.to.fine∧¬a.why=3
theorem Tame.none (n m:Nd) (hl:m.list=n.list) (hp:m.pred=n.pred):Tame n (m,[]):=⟨hl,hp,fun a ha=>by simp at ha⟩
theorem Tame.one {n m:Nd} {a:Ac} (hl:m.list=n.list) (hp:m.pred=n.pred) (hf:a.to.fine) (hw:¬a.why=3):Tame n (m,[a]):=
 ⟨hl,hp,fun b hb=>by rw [List.mem_singleton]at hb;rw [hb];exact ⟨hf,hw⟩⟩
structure SelfOk (n:Nd) (e:En) (q:Nd×List Ac):Prop where
 l:∀x∈q.1.list++q.1.pred,(qaG n.gateI n.gateK e n.clock=0∧x=qaN n.gateI n.gateK e n.clock)∨x∈n.list++n.pred
 a:∀a∈q.2,a.to.fine∧(a.why=3→qaG n.gateI n.gateK a.to n.clock=0)
 n:q.1.list.length≤n.list.length+1∧q.1.pred.length=n.pred.length
end Go.Proofs.YtnpkhdjgedeppaaGreatDoor
namespace Go.Proofs.YtnpkhdjgedeppaaGreatDoor
set_option maxHeartbeats 64000000
open Go.Am
set_option linter.unusedSimpArgs false
set_option linter.unusedVariables false
set_option maxRecDepth 100000
attribute [local irreducible] qaC idB qdL
@[go_sem] theorem qzI (ex ds):fn C5 10 ex ds=fn C 10 ex ds:=qlI _ (by decide) ex ds
@[go_sem] theorem qDb (ex ds):fn C5 11 ex ds=fn C 11 ex ds:=qlI _ (by decide) ex ds
@[go_sem] theorem qzJ (ex ds):fn C5 41 ex ds=fn C 41 ex ds:=qlI _ (by decide) ex ds
@[go_sem] theorem qzK (ex ds):fn C5 22 ex ds=fn C 22 ex ds:=qlI _ (by decide) ex ds
@[go_sem] theorem qu4 (ex ds):fn C5 13 ex ds=fn C 13 ex ds:=qlI _ (by decide) ex ds
@[go_sem] theorem qyB (ex ds):fn C5 44 ex ds=fn C 44 ex ds:=qlI _ (by decide) ex ds
@[go_sem] theorem qDc (ex ds):fn C5 47 ex ds=fn C 47 ex ds:=qlI _ (by decide) ex ds
@[go_sem] theorem qDd (ex ds):fn C5 49 ex ds=fn C 49 ex ds:=qlI _ (by decide) ex ds
@[go_sem] theorem qyC (ex ds):fn C5 48 ex ds=fn C 48 ex ds:=qlI _ (by decide) ex ds
@[go_sem] theorem qDe (ex ds):fn C5 18 ex ds=fn C 18 ex ds:=qlI _ (by decide) ex ds
@[go_sem] theorem qDf (ex ds):fn C5 19 ex ds=fn C 19 ex ds:=qlI _ (by decide) ex ds
theorem qzL {n:Nd} {m:Ms} (h:0≤n.clock∧n.clock≤1099511627776) (g:qcc m=false):(decide (n.clock<0)|| decide (1099511627776<n.clock)|| qcc m)=false:=by simp [g];omega
theorem qzM {n:Nd} {m:Ms} (h:¬(0≤n.clock∧n.clock≤1099511627776)):(decide (n.clock<0)|| decide (1099511627776<n.clock)|| qcc m)=true:=by
 have:=qLj h;simp [this]
theorem qzN {n:Nd} {m:Ms} (g:qcc m=true):(decide (n.clock<0)|| decide (1099511627776<n.clock)|| qcc m)=true:=by simp [g]
theorem qoG (p:Pd) (h:p.fit):fn C 41 [] [.slice 23 [[.int .i64 p.rid,.int .i64 p.why,.int .i64 p.job,.int .i64 p.til,.int .i64 p.tries,.int .u64 (p.session:Int),.str p.to.name,.int .u64 (p.to.id:Int),.int .i64 p.to.fr,.int .i64 p.to.un,.int .i64 p.to.ix,.str p.to.tag,.int .i64 p.m.kind,.int .i64 p.m.rid,.int .i64 p.m.ver,.int .i64 p.m.err,.int .u64 (p.m.id:Int),.bool p.m.has,.bool p.m.gone,.str p.m.key,.str p.m.val,.slice 6 (p.m.ents.map En.cs),.slice 4 (p.m.items.map It.cs)]]]=some (.bool (qcD [p]),[]):=by
 have:=e41 [p] (by simp) (fun x hx=>by rw [List.mem_singleton]at hx;rw [hx];exact h)
 exact this
theorem qHZ (n:Nd) (l:List En) (h:l.length≤9223372036854775807) (hf:∀e∈l,e.fit):fn C 11 [] [(aNd n),.agg [.int .i64 0,.int .i64 0,.int .i64 0,.int .i64 0,.int .u64 0,.bool false,.bool false,.str [],.str [],.slice 6 (l.map En.cs),.slice 4 []]]=some (.bool (decide (n.clock<0)|| decide (1099511627776<n.clock)|| qcc { msZ with ents:=l }),[]):=
 e11 n { msZ with ents:=l } ⟨Nat.zero_le _,Nat.zero_le _,h,Nat.zero_le _,hf,fun x hx=>by simp [msZ]at hx⟩
theorem qzO {n:Nd} (g:qbc n=false) (ho:n.ok) (hc:0≤n.clock∧n.clock≤1099511627776):CliOk n:=by
 have sm:=qdr g
 have hmid:=qiO g
 exact ⟨⟨hmid.le (by omega),ho.me.id,fun p hp=>(ho.list p hp).e.id,hc,fun j hj=>⟨Nat.le_trans (sm.j j hj).k (by omega),Nat.le_trans (sm.j j hj).v (by omega)⟩,fun j hj=>⟨(ho.jobs j hj).tries.1,(ho.jobs j hj).hops.1⟩⟩,ho.jobId⟩
theorem qH0 {n:Nd} {e:En} {m:Ms} (g:qbc n=false) (ho:n.ok) (ge:qbp e=false) (he:e.ok) (gm:qcc m=false) (hm:m.ok) (hc:0≤n.clock∧n.clock≤1099511627776):LrnOk n e m:=by
 have sm:=qdr g
 have sg:=qhG gm
 exact ⟨qzO g ho hc,quD g ho,Nat.le_trans sm.ll (by omega),qDG ge he,Nat.le_trans sg.e (by omega),fun x hx=>⟨hm.ents x hx,Nat.le_trans (sg.es x hx).n (by omega),Nat.le_trans (sg.es x hx).t (by omega)⟩,Nat.le_trans sg.i (by omega),fun x hx=>Nat.le_trans (sg.is x hx).k (by decide),fun x hx=>Nat.le_trans (sm.i x hx).k (by decide)⟩
theorem qH1 {n:Nd} (g:qbc n=false):∀j∈n.jobs,j.key.length≤9223372036854775807∧j.val.length≤9223372036854775807:=fun j hj=>⟨Nat.le_trans ((qdr g).j j hj).k (by decide),Nat.le_trans ((qdr g).j j hj).v (by decide)⟩
theorem e7 (n:Nd) (p:Pd) (e:En) (m:Ms) (ho:n.ok) (hf:n.fit) (hpf:p.fit) (he:e.ok) (hef:e.fit) (hm:m.ok) (hmf:m.fit):fn C5 7 [] [(aNd n),.agg [.int .i64 p.rid,.int .i64 p.why,.int .i64 p.job,.int .i64 p.til,.int .i64 p.tries,.int .u64 (p.session:Int),.str p.to.name,.int .u64 (p.to.id:Int),.int .i64 p.to.fr,.int .i64 p.to.un,.int .i64 p.to.ix,.str p.to.tag,.int .i64 p.m.kind,.int .i64 p.m.rid,.int .i64 p.m.ver,.int .i64 p.m.err,.int .u64 (p.m.id:Int),.bool p.m.has,.bool p.m.gone,.str p.m.key,.str p.m.val,.slice 6 (p.m.ents.map En.cs),.slice 4 (p.m.items.map It.cs)],.agg [.str e.name,.int .u64 (e.id:Int),.int .i64 e.fr,.int .i64 e.un,.int .i64 e.ix,.str e.tag],.agg [.int .i64 m.kind,.int .i64 m.rid,.int .i64 m.ver,.int .i64 m.err,.int .u64 (m.id:Int),.bool m.has,.bool m.gone,.str m.key,.str m.val,.slice 6 (m.ents.map En.cs),.slice 4 (m.items.map It.cs)]]=some (.bool true,[]):=by
 have gr:=e10 n hf
 have hu:=e11 n m hmf
 have lg:=e22 e hef.n hef.t
 have gp:=qoG p hpf
 have wk:=e42
 rcases Bool.eq_false_or_eq_true (qbc n)with g | g
 ·rw [g]at gr
  rw [qaa (C:=C5) Tryz.func7 rfl rfl Tryz.results7 (show (C5).M.loc 7=_ from fq7.1) rfl rfl (by kernel_rfl)]
  simp -implicitDefEqProofs -dsimp +contextual (maxSteps:=9999999) (disch:=first | omega | simp only [go_sem]<;>omega | refine ib ?_;kernel_rfl) only [go_sem,seval,↓reduceIte,gr,wk]
 rw [g]at gr
 by_cases hc:¬(0≤n.clock∧n.clock≤1099511627776)
 ·rw [qzM hc]at hu
  rw [qaa (C:=C5) Tryz.func7 rfl rfl Tryz.results7 (show (C5).M.loc 7=_ from fq7.1) rfl rfl (by kernel_rfl)]
  simp -implicitDefEqProofs -dsimp +contextual (maxSteps:=9999999) (disch:=first | omega | simp only [go_sem]<;>omega | refine ib ?_;kernel_rfl) only [go_sem,seval,↓reduceIte,gr,wk,hu]
 have hc:=Decidable.not_not.1 hc
 rcases Bool.eq_false_or_eq_true (qcc m)with gm | gm
 ·rw [qzN gm]at hu
  rw [qaa (C:=C5) Tryz.func7 rfl rfl Tryz.results7 (show (C5).M.loc 7=_ from fq7.1) rfl rfl (by kernel_rfl)]
  simp -implicitDefEqProofs -dsimp +contextual (maxSteps:=9999999) (disch:=first | omega | simp only [go_sem]<;>omega | refine ib ?_;kernel_rfl) only [go_sem,seval,↓reduceIte,gr,wk,hu]
 rw [qzL hc gm]at hu
 rcases Bool.eq_false_or_eq_true (qbp e)with ge | ge
 ·rw [ge]at lg
  rw [qaa (C:=C5) Tryz.func7 rfl rfl Tryz.results7 (show (C5).M.loc 7=_ from fq7.1) rfl rfl (by kernel_rfl)]
  simp -implicitDefEqProofs -dsimp +contextual (maxSteps:=9999999) (disch:=first | omega | simp only [go_sem]<;>omega | refine ib ?_;kernel_rfl) only [go_sem,seval,↓reduceIte,gr,wk,hu,lg]
 rw [ge]at lg
 rcases Bool.eq_false_or_eq_true (qcD [p])with gq | gq
 ·rw [gq]at gp
  rw [qaa (C:=C5) Tryz.func7 rfl rfl Tryz.results7 (show (C5).M.loc 7=_ from fq7.1) rfl rfl (by kernel_rfl)]
  simp -implicitDefEqProofs -dsimp +contextual (maxSteps:=9999999) (disch:=first | omega | simp only [go_sem]<;>omega | refine ib ?_;kernel_rfl) only [go_sem,seval,↓reduceIte,gr,wk,hu,lg,gp]
 rw [gq]at gp
 have cp:=e13 n ((qiO g).le (by omega))
 have ok:=qH0 g ho ge he gm hm hc
 have b1:=qjH n p e m ok
 have b2:=qyw n p e m ok
 have s0:=qDs n ((qiO g).cmp (by decide) hf.d)
 have gd:=qyA (p:=p) (quv g hf) ok (qH1 g)
 generalize qcS n p e m=q at b1 b2 gd
 obtain ⟨d,acts⟩:=q
 have s1:=qDs d gd.1
 have s2:=qDt acts gd.2 (by decide)
 unfold qaU at b1 b2
 rw [Nd.cs]at b1 b2
 rw [qaa (C:=C5) Tryz.func7 rfl rfl Tryz.results7 (show (C5).M.loc 7=_ from fq7.1) rfl rfl (by kernel_rfl)]
 simp -implicitDefEqProofs -dsimp +contextual (maxSteps:=9999999) (disch:=first | omega | simp only [go_sem]<;>omega | refine ib ?_;kernel_rfl) only [go_sem,seval,↓reduceIte,gr,wk,hu,lg,gp,cp,b1,b2,s0,s1,s2]
theorem e9 (n:Nd) (p:Pd) (l:List En) (ho:n.ok) (hf:n.fit) (hpf:p.fit) (hl:l.length≤9223372036854775807) (hlo:∀e∈l,e.ok) (hlf:∀e∈l,e.fit):fn C5 9 [] [(aNd n),.agg [.int .i64 p.rid,.int .i64 p.why,.int .i64 p.job,.int .i64 p.til,.int .i64 p.tries,.int .u64 (p.session:Int),.str p.to.name,.int .u64 (p.to.id:Int),.int .i64 p.to.fr,.int .i64 p.to.un,.int .i64 p.to.ix,.str p.to.tag,.int .i64 p.m.kind,.int .i64 p.m.rid,.int .i64 p.m.ver,.int .i64 p.m.err,.int .u64 (p.m.id:Int),.bool p.m.has,.bool p.m.gone,.str p.m.key,.str p.m.val,.slice 6 (p.m.ents.map En.cs),.slice 4 (p.m.items.map It.cs)],.slice 6 (l.map En.cs)]=some (.bool true,[]):=by
 have gr:=e10 n hf
 have hu:=qHZ n l hl hlf
 have gp:=qoG p hpf
 have wk:=e42
 rcases Bool.eq_false_or_eq_true (qbc n)with g | g
 ·rw [g]at gr
  rw [qaa (C:=C5) Tryz.func9 rfl rfl Tryz.results9 (show (C5).M.loc 9=_ from fq9.1) rfl rfl (by kernel_rfl)]
  simp -implicitDefEqProofs -dsimp +contextual (maxSteps:=9999999) (disch:=first | omega | simp only [go_sem]<;>omega | refine ib ?_;kernel_rfl) only [go_sem,seval,↓reduceIte,gr,wk]
 rw [g]at gr
 by_cases hc:¬(0≤n.clock∧n.clock≤1099511627776)
 ·rw [qzM hc]at hu
  rw [qaa (C:=C5) Tryz.func9 rfl rfl Tryz.results9 (show (C5).M.loc 9=_ from fq9.1) rfl rfl (by kernel_rfl)]
  simp -implicitDefEqProofs -dsimp +contextual (maxSteps:=9999999) (disch:=first | omega | simp only [go_sem]<;>omega | refine ib ?_;kernel_rfl) only [go_sem,seval,↓reduceIte,gr,wk,hu]
 have hc:=Decidable.not_not.1 hc
 rcases Bool.eq_false_or_eq_true (qcc { msZ with ents:=l })with gm | gm
 ·rw [qzN gm]at hu
  rw [qaa (C:=C5) Tryz.func9 rfl rfl Tryz.results9 (show (C5).M.loc 9=_ from fq9.1) rfl rfl (by kernel_rfl)]
  simp -implicitDefEqProofs -dsimp +contextual (maxSteps:=9999999) (disch:=first | omega | simp only [go_sem]<;>omega | refine ib ?_;kernel_rfl) only [go_sem,seval,↓reduceIte,gr,wk,hu]
 rw [qzL hc gm]at hu
 rcases Bool.eq_false_or_eq_true (qcD [p])with gq | gq
 ·rw [gq]at gp
  rw [qaa (C:=C5) Tryz.func9 rfl rfl Tryz.results9 (show (C5).M.loc 9=_ from fq9.1) rfl rfl (by kernel_rfl)]
  simp -implicitDefEqProofs -dsimp +contextual (maxSteps:=9999999) (disch:=first | omega | simp only [go_sem]<;>omega | refine ib ?_;kernel_rfl) only [go_sem,seval,↓reduceIte,gr,wk,hu,gp]
 rw [gq]at gp
 have co:=qzO g ho hc
 have fi:=quD g ho
 have sg:=qhG gm
 have sl:l.length≤30:=sg.e
 have se:∀e∈l,e.fine:=fun x hx=>⟨hlo x hx,Nat.le_trans (sg.es x hx).n (by omega),Nat.le_trans (sg.es x hx).t (by omega)⟩
 have b1:=qHV n p co.k
 have b2:=qHW n p co fi
 have m1:=e48 n l ((qiO g).le (by omega)) (by omega) se fi.gk
 have m2:=e49 n l ((qiO g).le (by omega)) (by omega) se fi.gk
 have gd:=qqN (p:=p) (quv g hf) (qH1 g)
 have gm3:=qDt (qdu n l) (qiL n l) (by omega)
 generalize qq1 n p=q at b1 b2 gd
 generalize qdu n l=ma at *
 obtain ⟨d,acts⟩:=q
 have s1:=qDs d gd.1
 have s2:=qDt acts gd.2 (by decide)
 unfold qaU at b1 b2
 rw [Nd.cs]at b1 b2
 clear sg sl se gm
 rw [qaa (C:=C5) Tryz.func9 rfl rfl Tryz.results9 (show (C5).M.loc 9=_ from fq9.1) rfl rfl (by kernel_rfl)]
 simp -implicitDefEqProofs -dsimp +contextual (maxSteps:=9999999) (disch:=first | omega | simp only [go_sem]<;>omega | refine ib ?_;kernel_rfl) only [go_sem,seval,↓reduceIte,gr,wk,hu,gp,b1,b2,m1,m2,s1,s2,gm3]
end Go.Proofs.YtnpkhdjgedeppaaGreatDoor
