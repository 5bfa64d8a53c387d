import Derived.Test.YtnpkhdjgedeppaaGreatDoorDn2
namespace Go.Am
set_option linter.unusedSectionVars false
set_option linter.unusedVariables false
def qdC (m:Nat) (f:Nat→AVal):Nat→AVal:=fun t=>if (m >>> t) % 2=1 then .junk else f t
abbrev Inl:=FuncId→List AVal→qac→Option (AVal×qac)
structure Or2 where
 c:Orc
 i:Inl
section
variable (E:Env) (M:Mds) (C:Or2)
def qEd (op:Op) (ρ:Operand→AVal):Option (FuncId×List AVal):=
 match op with
 | .call ⟨.value g,⟨args⟩,_⟩=>match ρ g with
  | .fn (.func f) first cap=>if qjW M.inls f=0 then none else some (f,first++args.map ρ++cap)
  | _=>none
 | _=>none
abbrev Stp:=AVal×qac×List Nat×List Nat
noncomputable def qAH (m:Nat) (H:qac) (r:AVal×qac):Option Stp:=
 if m % 2=0 then some (r.1,r.2,[ALL],[ALL]) else @gu _ (r.2=H) (Classical.propDecidable _) (some (r.1,H,[ALL],[]))
noncomputable def opS (op:Op) (dst:Option Tmp) (ρ:Operand→AVal) (H:qac):Option Stp:=
 match qEd M op ρ with
 | some q=>gu (E.P.inFn q.1=true) ((C.i q.1 q.2 H).bind (qAH (qjW M.inls q.1) H))
 | none=>(opE E M C.c op dst ρ H).bind fun q=>some (q.1,H.setAll q.2.2,q.2.1,q.2.2.map (·.1))
noncomputable def qfM (ops:Array Oper) (o:Oper) (s:St):Option (St×List Nat×List Nat):=
 match o.guard with
 | none=>(opS E M C o.op o.dst (ev E.Γ s.fr) s.H).bind fun q=>some (⟨qaF s.fr o.dst q.1,q.2.1⟩,q.2.2.1,q.2.2.2)
 | some (j,want)=>((ops[j]?).bind (·.dst)).bind fun d=>match s.fr d with
  | .bool t=>if t=want then (opS E M C o.op o.dst (ev E.Γ s.fr) s.H).bind fun q=>some (⟨qaF s.fr o.dst q.1,q.2.1⟩,q.2.2.1,q.2.2.2)
    else some (⟨qaF s.fr o.dst (.sc undef),s.H⟩,[],[])
  | .sc (.tuple ⟨[]⟩)=>some (⟨qaF s.fr o.dst (.sc undef),s.H⟩,[],[])
  | _=>none
noncomputable def qpz (ops:Array Oper):List Oper→St→Option St
 | [],s=>some s
 | o::l,s=>(qfM E M C ops o s).bind fun q=>qpz ops l q.1
noncomputable def qoi (ops:Array Oper):List Oper→St→List (List Nat×List Nat)→Option St
 | [],s,tr=>gu (qex ops tr=true) (some s)
 | o::l,s,tr=>(qfM E M C ops o s).bind fun q=>qoi ops l q.1 (tr++[(q.2.1,q.2.2)])
def qc9 (F:St→Option (Exit×St)):Nat→St→Option (Exit×St)
 | 0,_=>none
 | n+1,s=>(F s).bind fun p=>match p.1 with | .normal=>qc9 F n p.2 | e=>some (e,p.2)
noncomputable def evC (lo n:Nat):Code→St→Option (Exit×St)
 | .skip,s=>some (.normal,s)
 | .label _,s=>some (.normal,s)
 | .region _ ops draw,s=>(if draw=true then qoi E M C ops ops.toList s [] else qpz E M C ops ops.toList s).bind fun s=>some (.normal,⟨qdC lo s.fr,s.H⟩)
 | .seq a b,s=>(evC lo n a s).bind fun p=>match p.1 with | .normal=>evC lo n b p.2 | e=>some (e,p.2)
 | .cond x a b,s=>match ev E.Γ s.fr x with | .bool t=>if t=true then evC lo n a s else evC lo n b s | _=>none
 | .block id b,s=>(evC lo n b s).bind fun p=>match p.1 with | .exit i=>if i=id then some (.normal,p.2) else some (.exit i,p.2)|e=>some (e,p.2)
 | .loop b,s=>qc9 (evC lo n b) n s
 | .scope b,s=>(evC lo n b s).bind fun p=>match p.1 with | .goto _=>none | e=>some (e,p.2)
 | .exit id,s=>some (.exit id,s)
 | .ret,s=>some (.ret,s)
 | _,_=>none
end
def LeO {α:Type} (a b:Option α):Prop:=∀x,a=some x→b=some x
theorem LeO.refl {α:Type} (a:Option α):LeO a a:=fun _ h=>h
theorem LeO.trans {α:Type} {a b c:Option α} (h:LeO a b) (k:LeO b c):LeO a c:=fun x hx=>k x (h x hx)
theorem LeO.bind {α β:Type} {a a':Option α} {f f':α→Option β} (h:LeO a a') (hf:∀x,LeO (f x) (f' x)):LeO (a.bind f) (a'.bind f'):=fun y hy=>by
 rw [Option.bind_eq_some_iff]at hy ⊢
 obtain ⟨x,h1,h2⟩:=hy
 exact ⟨x,h x h1,hf x y h2⟩
theorem LeO.gu {α:Type} {p:Prop} [Decidable p] {a a':Option α} (h:LeO a a'):LeO (gu p a) (gu p a'):=fun y hy=>by
 rw [qaf]at hy ⊢;exact ⟨hy.1,h y hy.2⟩
def LeR (C C':Orc):Prop:=∀f ex ds,LeO (C f ex ds) (C' f ex ds)
def LeC (C C':Or2):Prop:=LeR C.c C'.c∧∀f vs H,LeO (C.i f vs H) (C'.i f vs H)
theorem LeC.refl (C:Or2):LeC C C:=⟨fun _ _ _=>LeO.refl _,fun _ _ _=>LeO.refl _⟩
theorem qse {C C':Orc} (h:LeR C C'):LeR (qdj C) (qdj C'):=fun f ex ds y hy=>by
 unfold qdj at hy ⊢
 rw [Option.map_eq_some_iff]at hy ⊢
 obtain ⟨r,h1,h2⟩:=hy
 exact ⟨r,h _ _ _ _ h1,h2⟩
theorem qEe {C C':Orc} (h:LeR C C') (gh dst ρ):LeR (ghO gh dst ρ C) (ghO gh dst ρ C'):=by
 unfold ghO
 split
 ·exact h
 ·split
  ·split
   ·split
    ·exact h
    ·exact qse h
   ·exact h
  ·exact h
section
variable {E:Env} {M:Mds} {C C':Orc}
theorem qhi (E:Env) (M:Mds) (C:Orc) (op:Op) (dst ρ H):(∃g args ts,op= .call ⟨.value g,⟨args⟩,ts⟩)∨∀C',opE E M C op dst ρ H=opE E M C' op dst ρ H:=by
 cases op<;>try exact .inr fun _=>rfl
 case slice t x lo hi mx=>cases mx<;>cases hi<;>exact .inr fun _=>rfl
 rename_i cl
 obtain ⟨callee,⟨args⟩,ts⟩:=cl
 cases callee<;>first | exact .inl ⟨_,_,_,rfl⟩|(refine .inr fun C'=>?_;unfold opE;rfl)
theorem qvT (h:LeR C C') (f vals dst H):LeO (qeL E M C f vals dst H) (qeL E M C' f vals dst H):=
 LeO.gu (LeO.bind (LeO.refl _) fun _=>LeO.gu (LeO.gu (LeO.bind (h _ _ _) fun _=>LeO.refl _)))
theorem qEf (h:LeR C C') (op dst ρ H):LeO (opE E M C op dst ρ H) (opE E M C' op dst ρ H):=by
 rcases qhi E M C op dst ρ H with ⟨g,args,ts,rfl⟩|h'
 ·simp only [opE]
  split
  ·exact qvT (qEe h _ _ _) _ _ _ _
  ·exact LeO.refl _
 ·rw [h' C'];exact LeO.refl _
end
section
variable {E:Env} {M:Mds} {C C':Or2}
theorem qzp (h:LeC C C') (op dst ρ H):LeO (opS E M C op dst ρ H) (opS E M C' op dst ρ H):=by
 unfold opS
 split
 ·exact LeO.gu (LeO.bind (h.2 _ _ _) fun _=>LeO.refl _)
 ·exact LeO.bind (qEf h.1 _ _ _ _) fun _=>LeO.refl _
theorem qgI (h:LeC C C') (ops o s):LeO (qfM E M C ops o s) (qfM E M C' ops o s):=by
 unfold qfM
 split
 ·exact LeO.bind (qzp h _ _ _ _) fun _=>LeO.refl _
 ·refine LeO.bind (LeO.refl _) fun d=>?_
  split
  ·split
   ·exact LeO.bind (qzp h _ _ _ _) fun _=>LeO.refl _
   ·exact LeO.refl _
  ·exact LeO.refl _
  ·exact LeO.refl _
theorem qmR (h:LeC C C') (ops):∀l s,LeO (qpz E M C ops l s) (qpz E M C' ops l s)
 | [],_=>LeO.refl _
 | o::l,s=>LeO.bind (qgI h _ _ _) fun q=>qmR h ops l q.1
theorem qmS (h:LeC C C') (ops):∀l s tr,LeO (qoi E M C ops l s tr) (qoi E M C' ops l s tr)
 | [],_,_=>LeO.refl _
 | o::l,s,tr=>LeO.bind (qgI h _ _ _) fun q=>qmS h ops l q.1 _
theorem qfi {F F':St→Option (Exit×St)} (h:∀s,LeO (F s) (F' s)):∀{n n':Nat},n≤n'→∀s,LeO (qc9 F n s) (qc9 F' n' s)
 | 0,_,_,_=>fun x hx=>by simp [qc9]at hx
 | n+1,0,hn,_=>by omega
 | n+1,n'+1,hn,s=>LeO.bind (h s) fun p=>by
  split
  ·exact qfi h (Nat.le_of_succ_le_succ hn) _
  ·exact LeO.refl _
theorem qbW (h:LeC C C') {lo n n':Nat} (hn:n≤n'):∀(c:Code) (s:St),LeO (evC E M C lo n c s) (evC E M C' lo n' c s)
 | .skip,_=>LeO.refl _
 | .label _,_=>LeO.refl _
 | .region _ ops draw,s=>by
  simp only [evC]
  refine LeO.bind ?_ fun _=>LeO.refl _
  split
  ·exact qmS h _ _ _ _
  ·exact qmR h _ _ _
 | .seq a b,s=>by
  simp only [evC]
  refine LeO.bind (qbW h hn a s) fun p=>?_
  split
  ·exact qbW h hn b _
  ·exact LeO.refl _
 | .cond x a b,s=>by
  simp only [evC]
  split
  ·split
   ·exact qbW h hn a s
   ·exact qbW h hn b s
  ·exact LeO.refl _
 | .block id b,s=>by
  simp only [evC]
  exact LeO.bind (qbW h hn b s) fun p=>LeO.refl _
 | .loop b,s=>by
  simp only [evC]
  exact qfi (qbW h hn b) hn s
 | .exit _,_=>LeO.refl _
 | .ret,_=>LeO.refl _
 | .rangeFunc _ _ _ _,_=>LeO.refl _
 | .scope b,s=>by
  simp only [evC]
  exact LeO.bind (qbW h hn b s) fun p=>LeO.refl _
 | .goto _,_=>LeO.refl _
 | .refuse _,_=>LeO.refl _
end
open Classical in
noncomputable def qEg {α:Type} (A:Nat→Option α):Option α:=if h:∃n x,A n=some x then A (Classical.choose h) else none
def qIy {α:Type} (A:Nat→Option α):Prop:=∀n n',n≤n'→LeO (A n) (A n')
theorem qcC {α:Type} {A:Nat→Option α} (hA:qIy A) (x:α):qEg A=some x↔∃n,A n=some x:=by
 unfold qEg
 split
 ·rename_i h
  constructor
  ·intro e;exact ⟨_,e⟩
  ·rintro ⟨n,hn⟩
   obtain ⟨y,hy⟩:=Classical.choose_spec h
   rw [hy]
   have h1:=hA n _ (Nat.le_max_left n (Classical.choose h)) x hn
   have h2:=hA _ _ (Nat.le_max_right n (Classical.choose h)) y hy
   rw [h1]at h2;exact h2.symm
 ·rename_i h
  constructor
  ·intro e;cases e
  ·rintro ⟨n,hn⟩;exact absurd ⟨n,x,hn⟩ h
def qAI (H:qac) (g:Bool) (n:Nat) (p:AVal):Option AVal:=(qgp H g n p).bind fun q=>some q.1
def rvE (E:Env) (f:Nat→AVal) (H:qac):ResultVar→Option AVal
 | .tmp t=>some (f t)
 | .cell x t=>(E.P.szO t).bind fun n=>(E.P.rowO t).bind fun g=>gu (g=false→n=1) (qAI H g n (f x))
def qrf (E:Env) (f:Nat→AVal) (H:qac):List ResultVar→Option (List AVal)
 | []=>some []
 | r::rs=>(rvE E f H r).bind fun v=>(qrf E f H rs).bind fun vs=>some (v::vs)
def qkW (H:qac) (ms:List Nat) (kss:List (List Nat)):List AVal→Option Pko
 | [v]=>qkO H (ms.headD 0) (kss.headD []) v
 | vs=>(qgq H ms kss vs).bind fun p=>some (.tup p.1,p.2)
def qh1 (H:qac):List AVal→Option (List AVal×List Nat×List Nat)
 | []=>some ([],[],[])
 | v::vs=>(pkO H 4 v).bind fun p=>(qh1 H vs).bind fun q=>some (p.1::q.1,p.2.1++q.2.1,p.2.2++q.2.2)
def qzq (E:Env) (rvs:List ResultVar) (ms:List Nat) (kss:List (List Nat)) (ds:List AVal) (f:Nat→AVal) (H:qac):Option Res:=
 (qrf E f H rvs).bind fun vs=>(qkW H ms kss vs).bind fun p=>(qh1 H (qa3 0 ds)).bind fun q=>
  gu (qcL (p.2.1++q.2.1)=true) (gu (qd1 (p.2.1++q.2.1) (p.2.2++q.2.2)=true) (some (p.1,q.1)))
theorem qhj {H:qac}:∀{vs:List AVal} {p},qh1 H vs=some p→Pks H vs p.1 p.2.1 p.2.2
 | [],p,h=>by simp only [qh1,Option.some.injEq]at h;subst h;exact .nil
 | v::vs,p,h=>by
  simp only [qh1,Option.bind_eq_some_iff,Option.some.injEq]at h
  obtain ⟨a,h1,b,h2,rfl⟩:=h
  exact .cons (qhd _ _ _ h1) (qhj h2)
theorem qmT {H:qac} {ms kss} {vs:List AVal} {p:Pko} (h:qkW H ms kss vs=some p):Pk H (qfy vs) p.1 p.2.1 p.2.2:=by
 unfold qkW at h
 split at h
 ·exact qhe h
 ·rename_i hne
  simp only [Option.bind_eq_some_iff,Option.some.injEq]at h
  obtain ⟨q,h1,rfl⟩:=h
  have:qfy vs= .tup vs:=by
   unfold qfy
   split
   ·exact absurd rfl (hne _)
   ·rfl
  rw [this]
  exact .tup (qeK h1)
theorem qpA {H:qac} {g:Bool} {n:Nat} {p:AVal} {q:Out} (h:qgp H g n p=some q):∃cs,qgm H p n=some cs∧q.1=mkV g cs:=by
 cases p<;>simp only [qgp,qaf,Option.bind_eq_some_iff,Option.some.injEq,reduceCtorEq]at h
 case ptr=>obtain ⟨h1,h2,r,h3,h4,rfl⟩:=h;exact ⟨_,by simp only [qgm];rw [qaZ h1 h2];simp [h3,h4],rfl⟩
 case iptr=>obtain ⟨h1,rfl⟩:=h;exact ⟨_,by simp [qgm,h1],rfl⟩
theorem qsf {E:Env} {f H rv v} (h:rvE E f H rv=some v):rvA E ⟨f,H⟩ rv v:=by
 cases rv<;>simp only [rvE,qAI,qaf,Option.bind_eq_some_iff,Option.some.injEq]at h
 ·exact h.symm
 ·obtain ⟨n,h1,g,h2,h3,q,h4,rfl⟩:=h
  obtain ⟨cs,h5,h6⟩:=qpA h4
  exact ⟨n,g,cs,h1,h2,h3,h5,h6⟩
theorem qfN {E:Env} {f H}:∀{rvs vs},qrf E f H rvs=some vs→qr1 E ⟨f,H⟩ rvs vs
 | [],vs,h=>by simp only [qrf,Option.some.injEq]at h;exact h.symm
 | r::rs,vs,h=>by
  simp only [qrf,Option.bind_eq_some_iff,Option.some.injEq]at h
  obtain ⟨v,h1,vs',h2,rfl⟩:=h
  exact ⟨v,vs',rfl,qsf h1,qfN h2⟩
theorem qiC {E:Env} {f H} {rvs:List ResultVar} {vs:List AVal} (h1:qr1 E ⟨f,H⟩ rvs vs):qDQ E rvs ⟨f,H⟩ (qfy vs):=by
 unfold qDQ
 split
 ·obtain ⟨v,vs',rfl,hv,hn⟩:=h1
  simp only [qr1]at hn;subst hn
  exact hv
 ·rename_i hne
  refine ⟨vs,?_,h1⟩
  cases rvs with
  | nil=>simp only [qr1]at h1;subst h1;rfl
  | cons a rest=>
   cases rest with
   | nil=>exact absurd rfl (hne a)
   | cons b rest=>
    obtain ⟨v,vs',rfl,_,v2,vs2,rfl,_⟩:=h1
    rfl
theorem qiD {E:Env} {rvs ms kss ds f H} {q:Res} (h:qzq E rvs ms kss ds f H=some q):Ret E rvs ds q.1 q.2 ⟨f,H⟩:=by
 simp only [qzq,qaf,Option.bind_eq_some_iff,Option.some.injEq]at h
 obtain ⟨vs,h1,p,h2,r,h3,h4,h5,rfl⟩:=h
 exact ⟨qfy vs,_,_,qiC (qfN h1),.cons (qmT h2) (qhj h3),qch h4,qhf h5⟩
def qgs:Exit→Bool | .normal=>true | .ret=>true | _=>false
theorem qfO {e:Exit} (h:qgs e=true):e= .normal∨e= .ret:=by cases e<;>simp [qgs]at h ⊢
abbrev Own:=FuncId→Option (List Nat→List AVal→Option Res)
def qvU:AVal→Bool | .usl _ _=>true | _=>false
def qeB (fn:Func) (code:Code) (ex:List Nat) (ds:List AVal):Bool:=
 qcb fn.ntmps code&&decide (ds.length≤fn.ntmps)&&qcL ((qba qac.nil 0 0 ds).map (·.1))&&ex.all fun k=>qvU (ds.getD k .junk)
noncomputable def qkX (E:Env) (M:Mds) (C:Or2) (n:Nat) (f:FuncId) (ex:List Nat) (ds:List AVal):Option Res:=
 (E.P.funcs[f]?).bind fun fn=>fn.body.bind fun code=>gu (qeB fn code ex ds=true)
 ((evC E (M.at f) C (M.loc f) n code (qim ex ds)).bind fun p=>gu (qgs p.1=true) (qzq E fn.results.toList (M.res f) (E.P.resK f) ds p.2.fr p.2.H))
def qvV (fn:Func) (code:Code) (vals:List AVal):Bool:=qcb fn.ntmps code&&decide (vals.length≤fn.ntmps)
def frm (vals:List AVal):Nat→AVal:=fun t=>vals.getD t .junk
noncomputable def ovE (P:Program) (f:FuncId) (vals:List AVal) (H:qac):Option (AVal×qac):=match vals with
 | [.osl o1 g1 _ n1,.osl o2 g2 _ n2]=>@gu _ (OvF P f) (Classical.propDecidable _) (gu (¬o1=o2) (gu (1≤n1) (gu (1≤n2) (gu ((H o1).gen=g1) (gu ((H o1).mode= .live) (gu (2≤(H o1).st) (gu ((H o2).gen=g2) (gu ((H o2).mode= .live) (gu (2≤(H o2).st) (some (.bool false,H)))))))))))
 | _=>none
noncomputable def qhk (E:Env) (M:Mds) (C:Or2) (n:Nat) (f:FuncId) (vals:List AVal) (H:qac):Option (AVal×qac):=
 if E.P.exFn f=true then ovE E.P f vals H else
 (E.P.funcs[f]?).bind fun fn=>fn.body.bind fun code=>gu (qvV fn code vals=true)
 ((evC E (M.inat f) C (M.loc f) n code ⟨frm vals,H⟩).bind fun p=>gu (qgs p.1=true) ((qrf E p.2.fr p.2.H fn.results.toList).bind fun vs=>some (qfy vs,p.2.H)))
noncomputable def evP (E:Env) (M:Mds) (X:Own):Nat→Or2
 | 0=>⟨fun _ _ _=>none,fun _ _ _=>none⟩
 | n+1=>⟨fun f ex ds=>match X f with
  | some g=>g ex ds
  | none=>qkX E M (evP E M X n) n f ex ds,fun f vals H=>qhk E M (evP E M X n) n f vals H⟩
theorem qvW {E:Env} {M:Mds} {C C':Or2} (h:LeC C C') {n n':Nat} (hn:n≤n') (f ex ds):LeO (qkX E M C n f ex ds) (qkX E M C' n' f ex ds):=
 LeO.bind (LeO.refl _) fun fn=>LeO.bind (LeO.refl _) fun code=>LeO.gu (LeO.bind (qbW h hn _ _) fun _=>LeO.refl _)
theorem qvX {E:Env} {M:Mds} {C C':Or2} (h:LeC C C') {n n':Nat} (hn:n≤n') (f vals H):LeO (qhk E M C n f vals H) (qhk E M C' n' f vals H):=by
 unfold qhk
 split
 ·exact LeO.refl _
 ·exact LeO.bind (LeO.refl _) fun fn=>LeO.bind (LeO.refl _) fun code=>LeO.gu (LeO.bind (qbW h hn _ _) fun _=>LeO.refl _)
theorem qdk {E:Env} {M:Mds} {X:Own}:∀{n n':Nat},n≤n'→LeC (evP E M X n) (evP E M X n')
 | 0,_,_=>⟨fun _ _ _ _ h=>(by cases h),fun _ _ _ _ h=>(by cases h)⟩
 | n+1,0,h=>by omega
 | n+1,n'+1,h=>⟨fun f ex ds=>by
  simp only [evP]
  split
  ·exact LeO.refl _
  ·exact qvW (qdk (Nat.le_of_succ_le_succ h)) (Nat.le_of_succ_le_succ h) f ex ds,fun f vals H=>by
  simp only [evP]
  exact qvX (qdk (Nat.le_of_succ_le_succ h)) (Nat.le_of_succ_le_succ h) f vals H⟩
noncomputable def fnE (E:Env) (M:Mds) (X:Own):Orc:=fun f ex ds=>qEg fun n=>(evP E M X n).c f ex ds
noncomputable def inE (E:Env) (M:Mds) (X:Own):Inl:=fun f vals H=>qEg fun n=>(evP E M X n).i f vals H
noncomputable def fnP (E:Env) (M:Mds) (X:Own):Or2:=⟨fnE E M X,inE E M X⟩
theorem qgJ (E:Env) (M:Mds) (X:Own) (f ex ds):qIy fun n=>(evP E M X n).c f ex ds:=fun _ _ h=>(qdk h).1 f ex ds
theorem qgK (E:Env) (M:Mds) (X:Own) (f vals H):qIy fun n=>(evP E M X n).i f vals H:=fun _ _ h=>(qdk h).2 f vals H
theorem qsg (E:Env) (M:Mds) (X:Own) (n:Nat):LeC (evP E M X n) (fnP E M X):=⟨fun f ex ds x h=>(qcC (qgJ E M X f ex ds) x).2 ⟨n,h⟩,fun f vals H x h=>(qcC (qgK E M X f vals H) x).2 ⟨n,h⟩⟩
section
variable {E:Env} {M:Mds} {X:Own} {lo:Nat}
theorem qsh {A:Nat→Orc} {B:Orc} (hA:∀f ex ds q,B f ex ds=some q→∃n,A n f ex ds=some q) {f vals dst H q} (h:qeL E M B f vals dst H=some q):∃n,qeL E M (A n) f vals dst H=some q:=by
 simp only [qeL,qaf,Option.bind_eq_some_iff]at h
 obtain ⟨h1,p,h2,h3,h4,r,h5,h6⟩:=h
 obtain ⟨n,hn⟩:=hA _ _ _ _ h5
 exact ⟨n,by simp only [qeL,qaf,Option.bind_eq_some_iff];exact ⟨h1,p,h2,h3,h4,r,hn,h6⟩⟩
theorem qAJ (gh dst ρ):∀f ex ds q,ghO gh dst ρ (fnE E M X) f ex ds=some q→∃n,ghO gh dst ρ (evP E M X n).c f ex ds=some q:=by
 have h0:∀f ex ds q,fnE E M X f ex ds=some q→∃n,(evP E M X n).c f ex ds=some q:=fun f ex ds q h=>(qcC (qgJ E M X f ex ds) q).1 h
 have h1:∀f ex ds q,qdj (fnE E M X) f ex ds=some q→∃n,qdj (evP E M X n).c f ex ds=some q:=fun f ex ds q h=>by
  unfold qdj at h ⊢
  rw [Option.map_eq_some_iff]at h
  obtain ⟨r,g1,g2⟩:=h
  obtain ⟨n,hn⟩:=h0 _ _ _ _ g1
  exact ⟨n,by rw [hn];simp [g2]⟩
 intro f ex ds q h
 cases gh with
 | none=>exact h0 _ _ _ _ h
 | some p=>
  obtain ⟨d,t,m⟩:=p
  by_cases hd:dst=some d
  ·have e:∀C:Orc,ghO (some (d,t,m)) dst ρ C=(match ρ (.tmp t)with | .int _ m'=>if m'=m then C else qdj C | _=>C):=fun C=>by simp only [ghO,if_pos hd];cases ρ (.tmp t)<;>rfl
   rw [e]at h
   cases hr:ρ (.tmp t)<;>simp only [hr]at h e
   case int k m'=>
    by_cases hm:m'=m
    ·rw [if_pos hm]at h
     obtain ⟨n,hn⟩:=h0 _ _ _ _ h
     exact ⟨n,by rw [e,if_pos hm];exact hn⟩
    ·rw [if_neg hm]at h
     obtain ⟨n,hn⟩:=h1 _ _ _ _ h
     exact ⟨n,by rw [e,if_neg hm];exact hn⟩
   all_goals
    obtain ⟨n,hn⟩:=h0 _ _ _ _ h
    exact ⟨n,by rw [e];exact hn⟩
  ·have e:∀C:Orc,ghO (some (d,t,m)) dst ρ C=C:=fun C=>by simp only [ghO,if_neg hd]
   rw [e]at h
   obtain ⟨n,hn⟩:=h0 _ _ _ _ h
   exact ⟨n,by rw [e];exact hn⟩
theorem qAK {op dst ρ H q} (h:opE E M (fnE E M X) op dst ρ H=some q):∃n,opE E M (evP E M X n).c op dst ρ H=some q:=by
 rcases qhi E M (fnE E M X) op dst ρ H with ⟨g,args,ts,rfl⟩|h'
 ·simp only [opE]at h ⊢
  split at h
  ·exact qsh (A:=fun n=>ghO M.gh dst ρ (evP E M X n).c) (qAJ _ _ _) h
  ·cases h
 ·exact ⟨0,by rw [←h' _];exact h⟩
theorem qsi {op dst ρ H q} (h:opS E M (fnP E M X) op dst ρ H=some q):∃n,opS E M (evP E M X n) op dst ρ H=some q:=by
 unfold opS at h ⊢
 split at h
 ·simp only [qaf,Option.bind_eq_some_iff]at h
  obtain ⟨h1,r,h2,h3⟩:=h
  obtain ⟨n,hn⟩:=(qcC (qgK E M X _ _ _) _).1 h2
  exact ⟨n,by simp only [qaf,Option.bind_eq_some_iff];exact ⟨h1,r,hn,h3⟩⟩
 ·rw [Option.bind_eq_some_iff]at h
  obtain ⟨r,h1,h2⟩:=h
  obtain ⟨n,hn⟩:=qAK h1
  exact ⟨n,by simp only [hn,Option.bind_some];exact h2⟩
theorem qkY {ops o s q} (h:qfM E M (fnP E M X) ops o s=some q):∃n,qfM E M (evP E M X n) ops o s=some q:=by
 cases hg:o.guard with
 | none=>
  simp only [qfM,hg,Option.bind_eq_some_iff]at h ⊢
  obtain ⟨r,h1,h2⟩:=h
  obtain ⟨n,hn⟩:=qsi h1
  exact ⟨n,r,hn,h2⟩
 | some jw=>
  obtain ⟨j,want⟩:=jw
  simp only [qfM,hg]at h ⊢
  rw [Option.bind_eq_some_iff]at h
  obtain ⟨d,h0,h⟩:=h
  rw [h0]
  simp only [Option.bind_some]
  split at h
  ·rename_i t hd
   split at h
   ·rename_i ht
    rw [Option.bind_eq_some_iff]at h
    obtain ⟨r,h1,h2⟩:=h
    obtain ⟨n,hn⟩:=qsi h1
    exact ⟨n,by rw [if_pos ht,hn];exact h2⟩
   ·rename_i ht
    exact ⟨0,by rw [if_neg ht];exact h⟩
  ·exact ⟨0,h⟩
  ·cases h
theorem qoj {ops}:∀{l s q},qpz E M (fnP E M X) ops l s=some q→∃n,qpz E M (evP E M X n) ops l s=some q
 | [],_,_,h=>⟨0,h⟩
 | o::l,s,q,h=>by
  simp only [qpz,Option.bind_eq_some_iff]at h ⊢
  obtain ⟨r,h1,h2⟩:=h
  obtain ⟨n,hn⟩:=qkY h1
  obtain ⟨m,hm⟩:=qoj h2
  exact ⟨max n m,r,qgI (qdk (Nat.le_max_left n m)) _ _ _ _ hn,qmR (qdk (Nat.le_max_right n m)) _ _ _ _ hm⟩
theorem qok {ops}:∀{l s tr q},qoi E M (fnP E M X) ops l s tr=some q→∃n,qoi E M (evP E M X n) ops l s tr=some q
 | [],_,_,_,h=>⟨0,h⟩
 | o::l,s,tr,q,h=>by
  simp only [qoi,Option.bind_eq_some_iff]at h ⊢
  obtain ⟨r,h1,h2⟩:=h
  obtain ⟨n,hn⟩:=qkY h1
  obtain ⟨m,hm⟩:=qok h2
  exact ⟨max n m,r,qgI (qdk (Nat.le_max_left n m)) _ _ _ _ hn,qmS (qdk (Nat.le_max_right n m)) _ _ _ _ _ hm⟩
theorem qkZ {F:St→Option (Exit×St)} {G:Nat→St→Option (Exit×St)} (hG:∀n n',n≤n'→∀s,LeO (G n s) (G n' s)) (h:∀s q,F s=some q→∃n,G n s=some q):∀{k s q},qc9 F k s=some q→∃n,qc9 (G n) k s=some q
 | 0,_,_,h=>by simp [qc9]at h
 | k+1,s,q,hk=>by
  simp only [qc9,Option.bind_eq_some_iff]at hk ⊢
  obtain ⟨⟨e,s'⟩,h1,h2⟩:=hk
  obtain ⟨n,hn⟩:=h s _ h1
  cases e with
  | normal=>
   obtain ⟨m,hm⟩:=qkZ hG h h2
   exact ⟨max n m,(.normal,s'),hG _ _ (Nat.le_max_left n m) _ _ hn,qfi (hG _ _ (Nat.le_max_right n m)) (Nat.le_refl _) _ _ hm⟩
  | _=>exact ⟨n,_,hn,h2⟩
theorem qda {k:Nat}:∀{c:Code} {s q},evC E M (fnP E M X) lo k c s=some q→∃n,evC E M (evP E M X n) lo k c s=some q
 | .skip,_,_,h=>⟨0,h⟩
 | .label _,_,_,h=>⟨0,h⟩
 | .region _ ops draw,s,q,h=>by
  simp only [evC,Option.bind_eq_some_iff]at h ⊢
  obtain ⟨r,h1,h2⟩:=h
  cases draw with
  | true=>
   simp only [if_true]at h1 ⊢
   obtain ⟨n,hn⟩:=qok h1
   exact ⟨n,r,hn,h2⟩
  | false=>
   simp only [Bool.false_eq_true,if_false]at h1 ⊢
   obtain ⟨n,hn⟩:=qoj h1
   exact ⟨n,r,hn,h2⟩
 | .seq a b,s,q,h=>by
  simp only [evC,Option.bind_eq_some_iff]at h ⊢
  obtain ⟨⟨e,s'⟩,h1,h2⟩:=h
  obtain ⟨n,hn⟩:=qda h1
  cases e with
  | normal=>
   obtain ⟨m,hm⟩:=qda h2
   exact ⟨max n m,(.normal,s'),qbW (qdk (Nat.le_max_left n m)) (Nat.le_refl _) _ _ _ hn,qbW (qdk (Nat.le_max_right n m)) (Nat.le_refl _) _ _ _ hm⟩
  | _=>exact ⟨n,_,hn,h2⟩
 | .cond x a b,s,q,h=>by
  simp only [evC]at h ⊢
  split at h
  ·split at h
   ·rename_i ht
    obtain ⟨n,hn⟩:=qda h
    exact ⟨n,by rw [if_pos ht];exact hn⟩
   ·rename_i ht
    obtain ⟨n,hn⟩:=qda h
    exact ⟨n,by rw [if_neg ht];exact hn⟩
  ·cases h
 | .block id b,s,q,h=>by
  simp only [evC,Option.bind_eq_some_iff]at h ⊢
  obtain ⟨p,h1,h2⟩:=h
  obtain ⟨n,hn⟩:=qda h1
  exact ⟨n,p,hn,h2⟩
 | .loop b,s,q,h=>by
  simp only [evC]at h ⊢
  exact qkZ (fun n n' hn s=>qbW (qdk hn) (Nat.le_refl _) b s) (fun s q h=>qda h) h
 | .exit _,_,_,h=>⟨0,h⟩
 | .ret,_,_,h=>⟨0,h⟩
 | .rangeFunc _ _ _ _,_,_,h=>⟨0,h⟩
 | .scope b,s,q,h=>by
  simp only [evC,Option.bind_eq_some_iff]at h ⊢
  obtain ⟨p,h1,h2⟩:=h
  obtain ⟨n,hn⟩:=qda h1
  exact ⟨n,p,hn,h2⟩
 | .goto _,_,_,h=>⟨0,h⟩
 | .refuse _,_,_,h=>⟨0,h⟩
noncomputable def evI (E:Env) (M:Mds) (X:Own) (lo:Nat) (c:Code) (s:St):Option (Exit×St):=qEg fun n=>evC E M (fnP E M X) lo n c s
theorem qjn (E:Env) (M:Mds) (X:Own) (lo:Nat) (c:Code) (s:St):qIy fun n=>evC E M (fnP E M X) lo n c s:=fun _ _ h=>qbW (LeC.refl _) h c s
theorem qaB {c:Code} {s:St} {q}:evI E M X lo c s=some q↔∃n,evC E M (fnP E M X) lo n c s=some q:=qcC (qjn E M X lo c s) q
theorem qdD {α:Type} {a b:Option α} (h:∀x,a=some x↔b=some x):a=b:=Option.ext h
theorem qvY (s:St):evI E M X lo .skip s=some (.normal,s):=qaB.2 ⟨0,rfl⟩
theorem qsj (l) (s:St):evI E M X lo (.label l) s=some (.normal,s):=qaB.2 ⟨0,rfl⟩
theorem qvZ (l) (s:St):evI E M X lo (.exit l) s=some (.exit l,s):=qaB.2 ⟨0,rfl⟩
theorem qAL (s:St):evI E M X lo .ret s=some (.ret,s):=qaB.2 ⟨0,rfl⟩
theorem qiE (id ops draw) (s:St):evI E M X lo (.region id ops draw) s=(if draw=true then qoi E M (fnP E M X) ops ops.toList s [] else qpz E M (fnP E M X) ops ops.toList s).bind fun s=>some (.normal,⟨qdC lo s.fr,s.H⟩):=
 qdD fun q=>qaB.trans ⟨fun ⟨_,h⟩=>h,fun h=>⟨0,h⟩⟩
theorem qAM (a b) (s:St):evI E M X lo (.seq a b) s=(evI E M X lo a s).bind fun p=>match p.1 with | .normal=>evI E M X lo b p.2 | e=>some (e,p.2):=by
 refine qdD fun q=>qaB.trans ⟨?_,?_⟩
 ·rintro ⟨n,h⟩
  simp only [evC,Option.bind_eq_some_iff]at h ⊢
  obtain ⟨⟨e,s'⟩,h1,h2⟩:=h
  refine ⟨(e,s'),qaB.2 ⟨n,h1⟩,?_⟩
  cases e with
  | normal=>exact qaB.2 ⟨n,h2⟩
  | _=>exact h2
 ·intro h
  rw [Option.bind_eq_some_iff]at h
  obtain ⟨⟨e,s'⟩,h1,h2⟩:=h
  obtain ⟨n,hn⟩:=qaB.1 h1
  simp only [evC,Option.bind_eq_some_iff]
  cases e with
  | normal=>
   obtain ⟨m,hm⟩:=qaB.1 h2
   exact ⟨max n m,(.normal,s'),qjn E M X lo _ _ _ _ (Nat.le_max_left n m) _ hn,qjn E M X lo _ _ _ _ (Nat.le_max_right n m) _ hm⟩
  | _=>exact ⟨n,_,hn,h2⟩
theorem qv0 (x a b) (s:St):evI E M X lo (.cond x a b) s=match ev E.Γ s.fr x with | .bool t=>if t=true then evI E M X lo a s else evI E M X lo b s | _=>none:=by
 refine qdD fun q=>qaB.trans ?_
 simp only [evC]
 split
 ·split
  ·exact qaB.symm
  ·exact qaB.symm
 ·simp
theorem qsk (id b) (s:St):evI E M X lo (.block id b) s=(evI E M X lo b s).bind fun p=>match p.1 with | .exit i=>if i=id then some (.normal,p.2) else some (.exit i,p.2)|e=>some (e,p.2):=by
 refine qdD fun q=>qaB.trans ⟨?_,?_⟩
 ·rintro ⟨n,h⟩
  simp only [evC,Option.bind_eq_some_iff]at h ⊢
  obtain ⟨p,h1,h2⟩:=h
  exact ⟨p,qaB.2 ⟨n,h1⟩,h2⟩
 ·intro h
  rw [Option.bind_eq_some_iff]at h
  obtain ⟨p,h1,h2⟩:=h
  obtain ⟨n,hn⟩:=qaB.1 h1
  exact ⟨n,by simp only [evC,Option.bind_eq_some_iff];exact ⟨p,hn,h2⟩⟩
theorem qsl (b) (s:St):evI E M X lo (.scope b) s=(evI E M X lo b s).bind fun p=>match p.1 with | .goto _=>none | e=>some (e,p.2):=by
 refine qdD fun q=>qaB.trans ⟨?_,?_⟩
 ·rintro ⟨n,h⟩
  simp only [evC,Option.bind_eq_some_iff]at h ⊢
  obtain ⟨p,h1,h2⟩:=h
  exact ⟨p,qaB.2 ⟨n,h1⟩,h2⟩
 ·intro h
  rw [Option.bind_eq_some_iff]at h
  obtain ⟨p,h1,h2⟩:=h
  obtain ⟨n,hn⟩:=qaB.1 h1
  exact ⟨n,by simp only [evC,Option.bind_eq_some_iff];exact ⟨p,hn,h2⟩⟩
theorem qv1 (b) (s:St):evI E M X lo (.loop b) s=(evI E M X lo b s).bind fun p=>match p.1 with | .normal=>evI E M X lo (.loop b) p.2 | e=>some (e,p.2):=by
 refine qdD fun q=>qaB.trans ⟨?_,?_⟩
 ·rintro ⟨n,h⟩
  cases n with
  | zero=>simp [evC,qc9]at h
  | succ n=>
   simp only [evC,qc9,Option.bind_eq_some_iff]at h
   rw [Option.bind_eq_some_iff]
   obtain ⟨⟨e,s'⟩,h1,h2⟩:=h
   refine ⟨(e,s'),qaB.2 ⟨n+1,h1⟩,?_⟩
   cases e with
   | normal=>exact qaB.2 ⟨n+1,by simp only [evC];exact qfi (fun s=>LeO.refl _) (Nat.le_succ n) _ _ h2⟩
   | _=>exact h2
 ·intro h
  rw [Option.bind_eq_some_iff]at h
  obtain ⟨⟨e,s'⟩,h1,h2⟩:=h
  obtain ⟨n,hn⟩:=qaB.1 h1
  cases e with
  | normal=>
   obtain ⟨m,hm⟩:=qaB.1 h2
   refine ⟨max n m+1,?_⟩
   simp only [evC,qc9,Option.bind_eq_some_iff]at hm ⊢
   exact ⟨(.normal,s'),qbW (LeC.refl _) (by omega) _ _ _ hn,qfi (fun s=>qbW (LeC.refl _) (by omega) _ _) (Nat.le_max_right n m) _ _ hm⟩
  | _=>
   refine ⟨n+1,?_⟩
   simp only [evC,qc9,Option.bind_eq_some_iff]
   exact ⟨_,qbW (LeC.refl _) (by omega) _ _ _ hn,h2⟩
theorem qol {M':Mds} (h1:∀g,M'.at g=M.at g) (h2:∀g,M'.inat g=M.inat g) (h3:M'.loc=M.loc) (h4:M'.res=M.res):∀n,evP E M' X n=evP E M X n
 | 0=>rfl
 | n+1=>by
  simp only [evP,qol h1 h2 h3 h4 n,qkX,qhk,h1,h2,h3,h4]
theorem qzr {M':Mds} (h1:∀g,M'.at g=M.at g) (h2:∀g,M'.inat g=M.inat g) (h3:M'.loc=M.loc) (h4:M'.res=M.res):fnP E M' X=fnP E M X:=by
 unfold fnP fnE inE
 simp only [qol h1 h2 h3 h4]
theorem qEh (f:FuncId) (n):evP E (M.at f) X n=evP E M X n:=qol (M:=M) (M':=M.at f) (fun _=>rfl) (fun _=>rfl) rfl rfl n
theorem qsm (f:FuncId):fnP E (M.at f) X=fnP E M X:=qzr (M:=M) (M':=M.at f) (fun _=>rfl) (fun _=>rfl) rfl rfl
theorem qv2 (f:FuncId) (n):evP E (M.inat f) X n=evP E M X n:=qol (M:=M) (M':=M.inat f) (fun _=>rfl) (fun _=>rfl) rfl rfl n
theorem qjo (f:FuncId):fnP E (M.inat f) X=fnP E M X:=qzr (M:=M) (M':=M.inat f) (fun _=>rfl) (fun _=>rfl) rfl rfl
theorem qEi (f:FuncId):fnE E (M.at f) X=fnE E M X:=congrArg Or2.c (qsm f)
theorem qEj (f:FuncId):inE E (M.at f) X=inE E M X:=congrArg Or2.i (qsm f)
theorem qv3 (f:FuncId):fnE E (M.inat f) X=fnE E M X:=congrArg Or2.c (qjo f)
theorem qv4 (f:FuncId):inE E (M.inat f) X=inE E M X:=congrArg Or2.i (qjo f)
theorem qzs (f ex ds):fnE E M X f ex ds=match X f with
  | some g=>g ex ds
  | none=>(E.P.funcs[f]?).bind fun fn=>fn.body.bind fun code=>gu (qeB fn code ex ds=true)
    ((evI E (M.at f) X (M.loc f) code (qim ex ds)).bind fun p=>gu (qgs p.1=true) (qzq E fn.results.toList (M.res f) (E.P.resK f) ds p.2.fr p.2.H)):=by
 refine qdD fun q=>(qcC (qgJ E M X f ex ds) q).trans ?_
 cases hg:X f with
 | some g=>
  constructor
  ·rintro ⟨n,h⟩
   cases n with
   | zero=>cases h
   | succ n=>simp only [evP,hg]at h;exact h
  ·intro h;exact ⟨1,by simp only [evP,hg];exact h⟩
 | none=>
  constructor
  ·rintro ⟨n,h⟩
   cases n with
   | zero=>cases h
   | succ n=>
    simp only [evP,hg,qkX,qaf,Option.bind_eq_some_iff]at h ⊢
    obtain ⟨fn,h1,code,h2,h3,p,h4,h5⟩:=h
    exact ⟨fn,h1,code,h2,h3,p,qaB.2 ⟨n,by rw [qsm];exact qbW (qsg E M X n) (Nat.le_refl _) _ _ _ h4⟩,h5⟩
  ·intro h
   simp only [qaf,Option.bind_eq_some_iff]at h
   obtain ⟨fn,h1,code,h2,h3,p,h4,h5⟩:=h
   obtain ⟨k,hk⟩:=qaB.1 h4
   obtain ⟨n,hn⟩:=qda hk
   rw [qEh]at hn
   refine ⟨max n k+1,?_⟩
   simp only [evP,hg,qkX,qaf,Option.bind_eq_some_iff]
   exact ⟨fn,h1,code,h2,h3,p,qbW (qdk (Nat.le_max_left n k)) (Nat.le_max_right n k) _ _ _ hn,h5⟩
theorem qEk {f} (hx:E.P.exFn f=true) (vals H):inE E M X f vals H=ovE E.P f vals H:=by
 refine qdD fun q=>(qcC (qgK E M X f vals H) q).trans ?_
 constructor
 ·rintro ⟨n,h⟩
  cases n with
  | zero=>cases h
  | succ n=>simpa only [evP,qhk,if_pos hx]using h
 ·intro h
  exact ⟨1,by simpa only [evP,qhk,if_pos hx]using h⟩
theorem qEl (f vals H) (hx:¬E.P.exFn f=true):inE E M X f vals H=(E.P.funcs[f]?).bind fun fn=>fn.body.bind fun code=>gu (qvV fn code vals=true)
  ((evI E (M.inat f) X (M.loc f) code ⟨frm vals,H⟩).bind fun p=>gu (qgs p.1=true) ((qrf E p.2.fr p.2.H fn.results.toList).bind fun vs=>some (qfy vs,p.2.H))):=by
 refine qdD fun q=>(qcC (qgK E M X f vals H) q).trans ?_
 constructor
 ·rintro ⟨n,h⟩
  cases n with
  | zero=>cases h
  | succ n=>
   simp only [evP,qhk,if_neg hx,qaf,Option.bind_eq_some_iff]at h ⊢
   obtain ⟨fn,h1,code,h2,h3,p,h4,h5⟩:=h
   exact ⟨fn,h1,code,h2,h3,p,qaB.2 ⟨n,by rw [qjo];exact qbW (qsg E M X n) (Nat.le_refl _) _ _ _ h4⟩,h5⟩
 ·intro h
  simp only [qaf,Option.bind_eq_some_iff]at h
  obtain ⟨fn,h1,code,h2,h3,p,h4,h5⟩:=h
  obtain ⟨k,hk⟩:=qaB.1 h4
  obtain ⟨n,hn⟩:=qda hk
  rw [qv2]at hn
  refine ⟨max n k+1,?_⟩
  simp only [evP,qhk,if_neg hx,qaf,Option.bind_eq_some_iff]
  exact ⟨fn,h1,code,h2,h3,p,qbW (qdk (Nat.le_max_left n k)) (Nat.le_max_right n k) _ _ _ hn,h5⟩
end
section
variable {E:Env} {M:Mds} {C:Or2} {lo:Nat}
def qmU (E:Env) (C:Or2):Prop:=qmP E C.c∧∀f vals H q,C.i f vals H=some q→qeI E f vals H q.1 q.2
theorem qsn {op:Op} {ρ:Operand→AVal} {q} (h:qEd M op ρ=some q):∃cl g f fs cs,op= .call cl∧cl.callee= .value g∧ρ g= .fn (.func f) fs cs∧q=(f,fs++cl.args.toList.map ρ++cs):=by
 unfold qEd at h
 split at h
 ·rename_i g args ts
  split at h
  ·rename_i f fs cs hg
   split at h
   ·cases h
   ·simp only [Option.some.injEq]at h
    exact ⟨_,g,f,fs,cs,rfl,rfl,hg,h.symm⟩
  ·cases h
 ·cases h
theorem qhl (hC:qmU E C) {ops o s q} (h:qfM E M C ops o s=some q):qg7 E ops o s q.1 q.2.1 q.2.2:=by
 have hop:∀(r:Stp),opS E M C o.op o.dst (ev E.Γ s.fr) s.H=some r→(∃v rd up,(∃sd,qrd E o.op sd (ev E.Γ s.fr) s.H v rd up)∧r=(v,s.H.setAll up,rd,up.map (·.1)))∨
   ∃v H' wr cl g f fs cs,(o.op= .call cl∧cl.callee= .value g∧ev E.Γ s.fr g= .fn (.func f) fs cs∧E.P.inFn f=true∧qeI E f (fs++cl.args.toList.map (ev E.Γ s.fr)++cs) s.H v H')∧(wr=[ALL]∨(wr=[]∧H'=s.H))∧r=(v,H',[ALL],wr):=fun r hr=>by
  unfold opS at hr
  split at hr
  ·rename_i p hp
   obtain ⟨cl,g,f,fs,cs,h1,h2,h3,rfl⟩:=qsn hp
   simp only [qaf,Option.bind_eq_some_iff]at hr
   obtain ⟨h4,r',h5,h6⟩:=hr
   unfold qAH at h6
   split at h6
   ·simp only [Option.some.injEq]at h6
    subst h6
    exact .inr ⟨r'.1,r'.2,_,cl,g,f,fs,cs,⟨h1,h2,h3,h4,hC.2 _ _ _ _ h5⟩,.inl rfl,rfl⟩
   ·simp only [qaf,Option.some.injEq]at h6
    obtain ⟨h7,rfl⟩:=h6
    exact .inr ⟨r'.1,s.H,_,cl,g,f,fs,cs,⟨h1,h2,h3,h4,by have:=hC.2 _ _ _ _ h5;rwa [h7]at this⟩,.inr ⟨rfl,rfl⟩,rfl⟩
  ·simp only [Option.bind_eq_some_iff,Option.some.injEq]at hr
   obtain ⟨r',h5,rfl⟩:=hr
   obtain ⟨v,rd,up,h1,h2⟩:=qrs (qsd hC.1 (K:=fun v rd up=>(v,rd,up)=r') h5 rfl)
   subst h2
   exact .inl ⟨v,rd,up,⟨_,h1⟩,rfl⟩
 unfold qfM at h
 split at h
 ·rename_i hg
  simp only [Option.bind_eq_some_iff,Option.some.injEq]at h
  obtain ⟨r,h1,rfl⟩:=h
  rcases hop r h1 with ⟨v,rd,up,⟨sd,ha⟩,rfl⟩|⟨v,H',wr,cl,g,f,fs,cs,ha,hwr,rfl⟩
  ·exact .inl ⟨v,up,⟨sd,by rw [hg];exact ha⟩,rfl,rfl⟩
  ·exact .inr ⟨v,H',⟨by rw [hg];trivial,cl,g,f,fs,cs,ha⟩,rfl,hwr,rfl⟩
 ·rename_i j want hg
  simp only [Option.bind_eq_some_iff]at h
  obtain ⟨d,⟨o',hd,hd'⟩,h⟩:=h
  have hd2:(ops[j]?).bind (·.dst)=some d:=by rw [hd];exact hd'
  split at h
  ·rename_i t ht
   split at h
   ·rename_i hw
    simp only [Option.bind_eq_some_iff,Option.some.injEq]at h
    obtain ⟨r,h1,rfl⟩:=h
    rcases hop r h1 with ⟨v,rd,up,⟨sd,ha⟩,rfl⟩|⟨v,H',wr,cl,g,f,fs,cs,ha,hwr,rfl⟩
    ·exact .inl ⟨v,up,⟨sd,by rw [hg];exact ⟨d,hd2,.inl ⟨by rw [ht,hw],ha⟩⟩⟩,rfl,rfl⟩
    ·exact .inr ⟨v,H',⟨by rw [hg];exact ⟨d,hd2,by rw [ht,hw]⟩,cl,g,f,fs,cs,ha⟩,rfl,hwr,rfl⟩
   ·rename_i hw
    simp only [Option.some.injEq]at h
    subst h
    exact .inl ⟨.sc undef,[],⟨none,by rw [hg];exact ⟨d,hd2,.inr ⟨.inl (by rw [ht];cases t<;>cases want<;>simp_all),rfl,rfl,rfl⟩⟩⟩,rfl,rfl⟩
  ·rename_i ht
   simp only [Option.some.injEq]at h
   subst h
   exact .inl ⟨.sc undef,[],⟨none,by rw [hg];exact ⟨d,hd2,.inr ⟨.inr ht,rfl,rfl,rfl⟩⟩⟩,rfl,rfl⟩
  ·cases h
theorem qiF (hC:qmU E C) {ops}:∀{l s s'} {K:St→Prop},qpz E M C ops l s=some s'→K s'→qIx E ops l s K
 | [],s,s',K,h,hk=>by simp only [qpz,Option.some.injEq]at h;subst h;exact hk
 | o::l,s,s',K,h,hk=>by
  simp only [qpz,Option.bind_eq_some_iff]at h
  obtain ⟨q,h1,h2⟩:=h
  exact ⟨q.1,q.2.1,q.2.2,qhl hC h1,qiF hC h2 hk⟩
theorem qiG (hC:qmU E C) {ops}:∀{l s s' tr} {K:St→Prop},qoi E M C ops l s tr=some s'→K s'→qrY E ops l s tr (fun tr s'=>qex ops tr=true∧K s')
 | [],s,s',tr,K,h,hk=>by simp only [qoi,qaf,Option.some.injEq]at h;obtain ⟨h1,rfl⟩:=h;exact ⟨h1,hk⟩
 | o::l,s,s',tr,K,h,hk=>by
  simp only [qoi,Option.bind_eq_some_iff]at h
  obtain ⟨q,h1,h2⟩:=h
  exact ⟨q.1,q.2.1,q.2.2,qhl hC h1,qiG hC h2 hk⟩
theorem qom {p:Nat→Prop} (h:∃n,p n):∃n,p n∧∀m,p m→n≤m:=by
 obtain ⟨n,hn⟩:=h
 induction n using Nat.strongRecOn with
 | ind n ih=>
  by_cases hm:∃m,p m∧m<n
  ·obtain ⟨m,h1,h2⟩:=hm;exact ih m h2 h1
  ·exact ⟨n,hn,fun m hm'=>by
    rcases Nat.lt_or_ge m n with h | h
    ·exact absurd ⟨m,hm',h⟩ hm
    ·exact h⟩
open Classical in
noncomputable def qhm (p:Nat→Prop):Nat:=if h:∃n,p n then Classical.choose (qom h) else 0
theorem qhn {p:Nat→Prop} (h:∃n,p n):p (qhm p)∧∀m,p m→qhm p≤m:=by
 unfold qhm
 rw [dif_pos h]
 exact Classical.choose_spec (qom h)
theorem qiH (s:St):qr0 s ⟨qdC lo s.fr,s.H⟩:=⟨rfl,fun t=>by
 show qdC lo s.fr t=_∨qdC lo s.fr t=_
 unfold qdC;split
 ·exact .inr rfl
 ·exact .inl rfl⟩
theorem qbO (hC:qmU E C) {n:Nat}:∀{c:Code} {s:St} {p:Exit×St} {Q:Exit→St→Prop},evC E M C lo n c s=some p→Q p.1 p.2→aw E c Q s
 | .skip,s,p,Q,h,hq=>by simp only [evC,Option.some.injEq]at h;subst h;exact hq
 | .label _,s,p,Q,h,hq=>by simp only [evC,Option.some.injEq]at h;subst h;exact hq
 | .region _ ops draw,s,p,Q,h,hq=>by
  simp only [evC,Option.bind_eq_some_iff,Option.some.injEq]at h
  obtain ⟨s',h1,rfl⟩:=h
  simp only [aw]
  cases draw with
  | true=>simp only [if_true]at h1 ⊢;exact ⟨s,qr0.refl s,qiG hC (K:=fun s'=>∃s2,qr0 s' s2∧Q .normal s2) h1 ⟨_,qiH s',hq⟩⟩
  | false=>simp only [Bool.false_eq_true,if_false]at h1 ⊢;exact ⟨s,qr0.refl s,qiF hC h1 ⟨_,qiH s',hq⟩⟩
 | .seq a b,s,p,Q,h,hq=>by
  simp only [evC,Option.bind_eq_some_iff]at h
  obtain ⟨r,h1,h2⟩:=h
  show aw E a (qAB (aw E b Q) Q) s
  refine qbO (p:=r) hC h1 ?_
  obtain ⟨e,s'⟩:=r
  cases e with
  | normal=>exact qbO hC h2 hq
  | _=>simp only [Option.some.injEq]at h2;subst h2;exact hq
 | .cond x a b,s,p,Q,h,hq=>by
  simp only [evC]at h
  split at h
  ·rename_i t ht
   refine ⟨t,ht,fun e=>?_,fun e=>?_⟩
   ·rw [if_pos e]at h;exact qbO hC h hq
   ·rw [if_neg (by simp [e])]at h;exact qbO hC h hq
  ·cases h
 | .block id b,s,p,Q,h,hq=>by
  simp only [evC,Option.bind_eq_some_iff]at h
  obtain ⟨r,h1,h2⟩:=h
  show aw E b (qgG id Q) s
  refine qbO (p:=r) hC h1 ?_
  obtain ⟨e,s'⟩:=r
  cases e with
  | exit i=>
   simp only [qgG]at h2 ⊢
   split at h2
   ·rename_i hi;simp only [Option.some.injEq]at h2;subst h2;rw [if_pos hi];exact hq
   ·rename_i hi;simp only [Option.some.injEq]at h2;subst h2;rw [if_neg hi];exact hq
  | _=>simp only [Option.some.injEq]at h2;subst h2;exact hq
 | .loop b,s,p,Q,h,hq=>by
  simp only [evC]at h
  refine ⟨fun s=>∃m,qc9 (evC E M C lo n b) m s=some p,fun s=>qhm fun m=>qc9 (evC E M C lo n b) m s=some p,⟨n,h⟩,fun s' hs=>?_⟩
  obtain ⟨k1,k2⟩:=qhn hs
  generalize hm:qhm (fun m=>qc9 (evC E M C lo n b) m s'=some p)=m at k1 k2
  cases m with
  | zero=>simp [qc9]at k1
  | succ m=>
   simp only [qc9,Option.bind_eq_some_iff]at k1
   obtain ⟨r,h1,h2⟩:=k1
   refine qbO (p:=r) hC h1 ?_
   obtain ⟨e,s''⟩:=r
   cases e with
   | normal=>
    obtain ⟨j1,j2⟩:=qhn (p:=fun m=>qc9 (evC E M C lo n b) m s''=some p) ⟨m,h2⟩
    refine ⟨⟨m,h2⟩,?_⟩
    show qhm (fun m=>qc9 (evC E M C lo n b) m s''=some p)<qhm (fun m=>qc9 (evC E M C lo n b) m s'=some p)
    rw [hm]
    exact Nat.lt_succ_of_le (j2 m h2)
   | _=>simp only [Option.some.injEq]at h2;subst h2;exact hq
 | .exit _,s,p,Q,h,hq=>by simp only [evC,Option.some.injEq]at h;subst h;exact hq
 | .ret,s,p,Q,h,hq=>by simp only [evC,Option.some.injEq]at h;subst h;exact hq
 | .rangeFunc _ _ _ _,_,_,_,h,_=>by simp [evC]at h
 | .scope b,s,p,Q,h,hq=>by
  simp only [evC,Option.bind_eq_some_iff]at h
  obtain ⟨r,h1,h2⟩:=h
  show aw E b (qrZ Q) s
  refine qbO (p:=r) hC h1 ?_
  obtain ⟨e,s'⟩:=r
  cases e with
  | goto l=>cases h2
  | _=>simp only [Option.some.injEq]at h2;subst h2;exact hq
 | .goto _,_,_,_,h,_=>by simp [evC]at h
 | .refuse _,_,_,_,h,_=>by simp [evC]at h
def qfP (E:Env) (X:Own):Prop:=∀f g ex ds q,X f=some g→g ex ds=some q→qdz E ex f ds q.1 q.2
theorem qpB {v:AVal} (h:qvU v=true):∃st es,v= .usl st es:=by
 cases v<;>simp [qvU]at h
 exact ⟨_,_,rfl⟩
theorem qmV (hm:E.P.follows .mixedOrders=true) (hC:qmU E C) {n f ex ds q} (h:qkX E M C n f ex ds=some q):qdz E ex f ds q.1 q.2:=by
 simp only [qkX,qaf,Option.bind_eq_some_iff]at h
 obtain ⟨fn,h1,code,h2,h3,p,h4,h5,h6⟩:=h
 simp only [qeB,Bool.and_eq_true,decide_eq_true_eq]at h3
 obtain ⟨⟨⟨g1,g2⟩,g3⟩,g4⟩:=h3
 refine qvR h1 h2 hm g1 g2 (qch g3) (fun k hk=>?_) (qbO hC h4 ⟨qfO h5,qiD h6⟩)
 have:=List.all_eq_true.1 g4 k hk
 obtain ⟨st,es,he⟩:=qpB this
 refine ⟨st,es,?_⟩
 rw [List.getD_eq_getElem?_getD]at he
 cases hd:ds[k]? with
 | none=>rw [hd]at he;cases he
 | some v=>rw [hd]at he;simp only [Option.getD_some]at he;rw [he]
theorem qmW (hm:E.P.follows .mixedOrders=true) (hC:qmU E C) {n f vals H q} (h:qhk E M C n f vals H=some q):qeI E f vals H q.1 q.2:=by
 unfold qhk at h
 split at h
 ·unfold ovE at h
  split at h
  ·simp only [qaf,Option.some.injEq]at h
   obtain ⟨h0,h1,h2,h3,h4,h5,h6,h7,h8,h9,rfl⟩:=h
   exact qvO h0 h1 h4 h5 h6 h2 h7 h8 h9 h3
  ·cases h
 simp only [qaf,Option.bind_eq_some_iff,Option.some.injEq]at h
 obtain ⟨fn,h1,code,h2,h3,p,h4,h5,vs,h6,rfl⟩:=h
 simp only [qvV,Bool.and_eq_true,decide_eq_true_eq]at h3
 exact qD8 h1 h2 hm h3.1 h3.2 (qbO hC h4 ⟨qfO h5,qiC (qfN h6),rfl⟩)
theorem qfj {X:Own} (hm:E.P.follows .mixedOrders=true) (hX:qfP E X):∀n,qmU E (evP E M X n)
 | 0=>⟨fun _ _ _ _ h=>(by cases h),fun _ _ _ _ h=>(by cases h)⟩
 | n+1=>⟨fun f ex ds q h=>by
  simp only [evP]at h
  split at h
  ·rename_i g hg;exact hX f g ex ds q hg h
  ·exact qmV hm (qfj hm hX n) h,fun f vals H q h=>by
  simp only [evP]at h
  exact qmW hm (qfj hm hX n) h⟩
theorem qak {X:Own} (hm:E.P.follows .mixedOrders=true) (hX:qfP E X) {f ex ds q} (h:fnE E M X f ex ds=some q):qdz E ex f ds q.1 q.2:=by
 obtain ⟨n,hn⟩:=(qcC (qgJ E M X f ex ds) q).1 h
 exact (qfj hm hX n).1 f ex ds q hn
end
end Go.Am
