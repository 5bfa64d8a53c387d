import Derived.Test.YtnpkhdjgedeppaaGreatDoorDn2
namespace Go.Am
set_option linter.unusedSectionVars false
set_option linter.unusedVariables false
def qdo (m:Nat) (f:Nat→AVal):Nat→AVal:=fun t=>if (m >>> t) % 2=1 then .junk else f t
abbrev Inl:=FuncId→List AVal→qac→Option (AVal×qac)
structure Or2 where
 c:Orc
 i:Inl
section
variable (E:Env) (M:Mds) (C:Or2)
def qCa (op:Op) (ρ:Operand→AVal):Option (FuncId×List AVal):=
 match op with
 | .call ⟨.value g,⟨args⟩,_⟩=>match ρ g with
  | .fn (.func f) first cap=>if qi5 M.inls f=0 then none else some (f,first++args.map ρ++cap)
  | _=>none
 | _=>none
abbrev Stp:=AVal×qac×List Nat×List Nat
noncomputable def qyY (m:Nat) (H:qac) (r:AVal×qac):Option Stp:=
 if m % 2=0 then some (r.1,r.2,[ALL],[ALL]) else @gu _ (r.2=H) (Classical.propDecidable _) (some (r.1,H,[ALL],[]))
noncomputable def opS (op:Op) (dst:Option Tmp) (ρ:Operand→AVal) (H:qac):Option Stp:=
 match qCa M op ρ with
 | some q=>gu (E.P.inFn q.1=true) ((C.i q.1 q.2 H).bind (qyY (qi5 M.inls q.1) H))
 | none=>(opE E M C.c op dst ρ H).bind fun q=>some (q.1,H.setAll q.2.2,q.2.1,q.2.2.map (·.1))
noncomputable def qfs (ops:Array Oper) (o:Oper) (s:St):Option (St×List Nat×List Nat):=
 match o.guard with
 | none=>(opS E M C o.op o.dst (ev E.Γ s.fr) s.H).bind fun q=>some (⟨qaC s.fr o.dst q.1,q.2.1⟩,q.2.2.1,q.2.2.2)
 | some (j,want)=>((ops[j]?).bind (·.dst)).bind fun d=>match s.fr d with
  | .bool t=>if t=want then (opS E M C o.op o.dst (ev E.Γ s.fr) s.H).bind fun q=>some (⟨qaC s.fr o.dst q.1,q.2.1⟩,q.2.2.1,q.2.2.2)
    else some (⟨qaC s.fr o.dst (.sc undef),s.H⟩,[],[])
  | .sc (.tuple ⟨[]⟩)=>some (⟨qaC s.fr o.dst (.sc undef),s.H⟩,[],[])
  | _=>none
noncomputable def qoD (ops:Array Oper):List Oper→St→Option St
 | [],s=>some s
 | o::l,s=>(qfs E M C ops o s).bind fun q=>qoD ops l q.1
noncomputable def qng (ops:Array Oper):List Oper→St→List (List Nat×List Nat)→Option St
 | [],s,tr=>gu (qeh ops tr=true) (some s)
 | o::l,s,tr=>(qfs E M C ops o s).bind fun q=>qng ops l q.1 (tr++[(q.2.1,q.2.2)])
def qcZ (F:St→Option (Exit×St)):Nat→St→Option (Exit×St)
 | 0,_=>none
 | n+1,s=>(F s).bind fun p=>match p.1 with | .normal=>qcZ F n p.2 | e=>some (e,p.2)
noncomputable def evC (lo n:Nat):Code→St→Option (Exit×St)
 | .skip,s=>some (.normal,s)
 | .label _,s=>some (.normal,s)
 | .region _ ops draw,s=>(if draw=true then qng E M C ops ops.toList s [] else qoD E M C ops ops.toList s).bind fun s=>some (.normal,⟨qdo lo s.fr,s.H⟩)
 | .seq a b,s=>(evC lo n a s).bind fun p=>match p.1 with | .normal=>evC lo n b p.2 | e=>some (e,p.2)
 | .cond x a b,s=>match ev E.Γ s.fr x with | .bool t=>if t=true then evC lo n a s else evC lo n b s | _=>none
 | .block id b,s=>(evC lo n b s).bind fun p=>match p.1 with | .exit i=>if i=id then some (.normal,p.2) else some (.exit i,p.2)|e=>some (e,p.2)
 | .loop b,s=>qcZ (evC lo n b) n s
 | .scope b,s=>(evC lo n b s).bind fun p=>match p.1 with | .goto _=>none | e=>some (e,p.2)
 | .exit id,s=>some (.exit id,s)
 | .ret,s=>some (.ret,s)
 | _,_=>none
end
def LeO {α:Type} (a b:Option α):Prop:=∀x,a=some x→b=some x
theorem LeO.refl {α:Type} (a:Option α):LeO a a:=fun _ h=>h
theorem LeO.trans {α:Type} {a b c:Option α} (h:LeO a b) (k:LeO b c):LeO a c:=fun x hx=>k x (h x hx)
theorem LeO.bind {α β:Type} {a a':Option α} {f f':α→Option β} (h:LeO a a') (hf:∀x,LeO (f x) (f' x)):LeO (a.bind f) (a'.bind f'):=fun y hy=>by
 rw [Option.bind_eq_some_iff]at hy ⊢
 obtain ⟨x,h1,h2⟩:=hy
 exact ⟨x,h x h1,hf x y h2⟩
theorem LeO.gu {α:Type} {p:Prop} [Decidable p] {a a':Option α} (h:LeO a a'):LeO (gu p a) (gu p a'):=fun y hy=>by
 rw [qag]at hy ⊢;exact ⟨hy.1,h y hy.2⟩
def LeR (C C':Orc):Prop:=∀f ex ds,LeO (C f ex ds) (C' f ex ds)
def LeC (C C':Or2):Prop:=LeR C.c C'.c∧∀f vs H,LeO (C.i f vs H) (C'.i f vs H)
theorem LeC.refl (C:Or2):LeC C C:=⟨fun _ _ _=>LeO.refl _,fun _ _ _=>LeO.refl _⟩
theorem qq6 {C C':Orc} (h:LeR C C'):LeR (qc5 C) (qc5 C'):=fun f ex ds y hy=>by
 unfold qc5 at hy ⊢
 rw [Option.map_eq_some_iff]at hy ⊢
 obtain ⟨r,h1,h2⟩:=hy
 exact ⟨r,h _ _ _ _ h1,h2⟩
theorem qCb {C C':Orc} (h:LeR C C') (gh dst ρ):LeR (ghO gh dst ρ C) (ghO gh dst ρ C'):=by
 unfold ghO
 split
 ·exact h
 ·split
  ·split
   ·split
    ·exact h
    ·exact qq6 h
   ·exact h
  ·exact h
section
variable {E:Env} {M:Mds} {C C':Orc}
theorem qgH (E:Env) (M:Mds) (C:Orc) (op:Op) (dst ρ H):(∃g args ts,op= .call ⟨.value g,⟨args⟩,ts⟩)∨∀C',opE E M C op dst ρ H=opE E M C' op dst ρ H:=by
 cases op<;>try exact .inr fun _=>rfl
 case slice t x lo hi mx=>cases mx<;>cases hi<;>exact .inr fun _=>rfl
 rename_i cl
 obtain ⟨callee,⟨args⟩,ts⟩:=cl
 cases callee<;>first | exact .inl ⟨_,_,_,rfl⟩|(refine .inr fun C'=>?_;unfold opE;rfl)
theorem quC (h:LeR C C') (f vals dst H):LeO (qeu E M C f vals dst H) (qeu E M C' f vals dst H):=
 LeO.gu (LeO.bind (LeO.refl _) fun _=>LeO.gu (LeO.gu (LeO.bind (h _ _ _) fun _=>LeO.refl _)))
theorem qCc (h:LeR C C') (op dst ρ H):LeO (opE E M C op dst ρ H) (opE E M C' op dst ρ H):=by
 rcases qgH E M C op dst ρ H with ⟨g,args,ts,rfl⟩|h'
 ·simp only [opE]
  split
  ·exact quC (qCb h _ _ _) _ _ _ _
  ·exact LeO.refl _
 ·rw [h' C'];exact LeO.refl _
end
section
variable {E:Env} {M:Mds} {C C':Or2}
theorem qxO (h:LeC C C') (op dst ρ H):LeO (opS E M C op dst ρ H) (opS E M C' op dst ρ H):=by
 unfold opS
 split
 ·exact LeO.gu (LeO.bind (h.2 _ _ _) fun _=>LeO.refl _)
 ·exact LeO.bind (qCc h.1 _ _ _ _) fun _=>LeO.refl _
theorem qgb (h:LeC C C') (ops o s):LeO (qfs E M C ops o s) (qfs E M C' ops o s):=by
 unfold qfs
 split
 ·exact LeO.bind (qxO h _ _ _ _) fun _=>LeO.refl _
 ·refine LeO.bind (LeO.refl _) fun d=>?_
  split
  ·split
   ·exact LeO.bind (qxO h _ _ _ _) fun _=>LeO.refl _
   ·exact LeO.refl _
  ·exact LeO.refl _
  ·exact LeO.refl _
theorem qlH (h:LeC C C') (ops):∀l s,LeO (qoD E M C ops l s) (qoD E M C' ops l s)
 | [],_=>LeO.refl _
 | o::l,s=>LeO.bind (qgb h _ _ _) fun q=>qlH h ops l q.1
theorem qlI (h:LeC C C') (ops):∀l s tr,LeO (qng E M C ops l s tr) (qng E M C' ops l s tr)
 | [],_,_=>LeO.refl _
 | o::l,s,tr=>LeO.bind (qgb h _ _ _) fun q=>qlI h ops l q.1 _
theorem qe0 {F F':St→Option (Exit×St)} (h:∀s,LeO (F s) (F' s)):∀{n n':Nat},n≤n'→∀s,LeO (qcZ F n s) (qcZ F' n' s)
 | 0,_,_,_=>fun x hx=>by simp [qcZ]at hx
 | n+1,0,hn,_=>by omega
 | n+1,n'+1,hn,s=>LeO.bind (h s) fun p=>by
  split
  ·exact qe0 h (Nat.le_of_succ_le_succ hn) _
  ·exact LeO.refl _
theorem qbT (h:LeC C C') {lo n n':Nat} (hn:n≤n'):∀(c:Code) (s:St),LeO (evC E M C lo n c s) (evC E M C' lo n' c s)
 | .skip,_=>LeO.refl _
 | .label _,_=>LeO.refl _
 | .region _ ops draw,s=>by
  simp only [evC]
  refine LeO.bind ?_ fun _=>LeO.refl _
  split
  ·exact qlI h _ _ _ _
  ·exact qlH h _ _ _
 | .seq a b,s=>by
  simp only [evC]
  refine LeO.bind (qbT h hn a s) fun p=>?_
  split
  ·exact qbT h hn b _
  ·exact LeO.refl _
 | .cond x a b,s=>by
  simp only [evC]
  split
  ·split
   ·exact qbT h hn a s
   ·exact qbT h hn b s
  ·exact LeO.refl _
 | .block id b,s=>by
  simp only [evC]
  exact LeO.bind (qbT h hn b s) fun p=>LeO.refl _
 | .loop b,s=>by
  simp only [evC]
  exact qe0 (qbT h hn b) hn s
 | .exit _,_=>LeO.refl _
 | .ret,_=>LeO.refl _
 | .rangeFunc _ _ _ _,_=>LeO.refl _
 | .scope b,s=>by
  simp only [evC]
  exact LeO.bind (qbT h hn b s) fun p=>LeO.refl _
 | .goto _,_=>LeO.refl _
 | .refuse _,_=>LeO.refl _
end
open Classical in
noncomputable def qCd {α:Type} (A:Nat→Option α):Option α:=if h:∃n x,A n=some x then A (Classical.choose h) else none
def qF1 {α:Type} (A:Nat→Option α):Prop:=∀n n',n≤n'→LeO (A n) (A n')
theorem qcy {α:Type} {A:Nat→Option α} (hA:qF1 A) (x:α):qCd A=some x↔∃n,A n=some x:=by
 unfold qCd
 split
 ·rename_i h
  constructor
  ·intro e;exact ⟨_,e⟩
  ·rintro ⟨n,hn⟩
   obtain ⟨y,hy⟩:=Classical.choose_spec h
   rw [hy]
   have h1:=hA n _ (Nat.le_max_left n (Classical.choose h)) x hn
   have h2:=hA _ _ (Nat.le_max_right n (Classical.choose h)) y hy
   rw [h1]at h2;exact h2.symm
 ·rename_i h
  constructor
  ·intro e;cases e
  ·rintro ⟨n,hn⟩;exact absurd ⟨n,x,hn⟩ h
def qyZ (H:qac) (g:Bool) (n:Nat) (p:AVal):Option AVal:=(qfW H g n p).bind fun q=>some q.1
def rvE (E:Env) (f:Nat→AVal) (H:qac):ResultVar→Option AVal
 | .tmp t=>some (f t)
 | .cell x t=>(E.P.szO t).bind fun n=>(E.P.rowO t).bind fun g=>gu (g=false→n=1) (qyZ H g n (f x))
def qqe (E:Env) (f:Nat→AVal) (H:qac):List ResultVar→Option (List AVal)
 | []=>some []
 | r::rs=>(rvE E f H r).bind fun v=>(qqe E f H rs).bind fun vs=>some (v::vs)
def qj0 (H:qac) (ms:List Nat) (kss:List (List Nat)):List AVal→Option Pko
 | [v]=>qjS H (ms.headD 0) (kss.headD []) v
 | vs=>(qfX H ms kss vs).bind fun p=>some (.tup p.1,p.2)
def qhq (H:qac):List AVal→Option (List AVal×List Nat×List Nat)
 | []=>some ([],[],[])
 | v::vs=>(pkO H 4 v).bind fun p=>(qhq H vs).bind fun q=>some (p.1::q.1,p.2.1++q.2.1,p.2.2++q.2.2)
def qxP (E:Env) (rvs:List ResultVar) (ms:List Nat) (kss:List (List Nat)) (ds:List AVal) (f:Nat→AVal) (H:qac):Option Res:=
 (qqe E f H rvs).bind fun vs=>(qj0 H ms kss vs).bind fun p=>(qhq H (qa3 0 ds)).bind fun q=>
  gu (qcI (p.2.1++q.2.1)=true) (gu (qdM (p.2.1++q.2.1) (p.2.2++q.2.2)=true) (some (p.1,q.1)))
theorem qgI {H:qac}:∀{vs:List AVal} {p},qhq H vs=some p→Pks H vs p.1 p.2.1 p.2.2
 | [],p,h=>by simp only [qhq,Option.some.injEq]at h;subst h;exact .nil
 | v::vs,p,h=>by
  simp only [qhq,Option.bind_eq_some_iff,Option.some.injEq]at h
  obtain ⟨a,h1,b,h2,rfl⟩:=h
  exact .cons (qgC _ _ _ h1) (qgI h2)
theorem qlJ {H:qac} {ms kss} {vs:List AVal} {p:Pko} (h:qj0 H ms kss vs=some p):Pk H (qfe vs) p.1 p.2.1 p.2.2:=by
 unfold qj0 at h
 split at h
 ·exact qgD h
 ·rename_i hne
  simp only [Option.bind_eq_some_iff,Option.some.injEq]at h
  obtain ⟨q,h1,rfl⟩:=h
  have:qfe vs= .tup vs:=by
   unfold qfe
   split
   ·exact absurd rfl (hne _)
   ·rfl
  rw [this]
  exact .tup (qet h1)
theorem qoE {H:qac} {g:Bool} {n:Nat} {p:AVal} {q:Out} (h:qfW H g n p=some q):∃cs,qfT H p n=some cs∧q.1=mkV g cs:=by
 cases p<;>simp only [qfW,qag,Option.bind_eq_some_iff,Option.some.injEq,reduceCtorEq]at h
 case ptr=>obtain ⟨h1,h2,r,h3,h4,rfl⟩:=h;exact ⟨_,by simp only [qfT];rw [qaY h1 h2];simp [h3,h4],rfl⟩
 case iptr=>obtain ⟨h1,rfl⟩:=h;exact ⟨_,by simp [qfT,h1],rfl⟩
theorem qq7 {E:Env} {f H rv v} (h:rvE E f H rv=some v):rvA E ⟨f,H⟩ rv v:=by
 cases rv<;>simp only [rvE,qyZ,qag,Option.bind_eq_some_iff,Option.some.injEq]at h
 ·exact h.symm
 ·obtain ⟨n,h1,g,h2,h3,q,h4,rfl⟩:=h
  obtain ⟨cs,h5,h6⟩:=qoE h4
  exact ⟨n,g,cs,h1,h2,h3,h5,h6⟩
theorem qft {E:Env} {f H}:∀{rvs vs},qqe E f H rvs=some vs→qqR E ⟨f,H⟩ rvs vs
 | [],vs,h=>by simp only [qqe,Option.some.injEq]at h;exact h.symm
 | r::rs,vs,h=>by
  simp only [qqe,Option.bind_eq_some_iff,Option.some.injEq]at h
  obtain ⟨v,h1,vs',h2,rfl⟩:=h
  exact ⟨v,vs',rfl,qq7 h1,qft h2⟩
theorem qh2 {E:Env} {f H} {rvs:List ResultVar} {vs:List AVal} (h1:qqR E ⟨f,H⟩ rvs vs):qBO E rvs ⟨f,H⟩ (qfe vs):=by
 unfold qBO
 split
 ·obtain ⟨v,vs',rfl,hv,hn⟩:=h1
  simp only [qqR]at hn;subst hn
  exact hv
 ·rename_i hne
  refine ⟨vs,?_,h1⟩
  cases rvs with
  | nil=>simp only [qqR]at h1;subst h1;rfl
  | cons a rest=>
   cases rest with
   | nil=>exact absurd rfl (hne a)
   | cons b rest=>
    obtain ⟨v,vs',rfl,_,v2,vs2,rfl,_⟩:=h1
    rfl
theorem qh3 {E:Env} {rvs ms kss ds f H} {q:Res} (h:qxP E rvs ms kss ds f H=some q):Ret E rvs ds q.1 q.2 ⟨f,H⟩:=by
 simp only [qxP,qag,Option.bind_eq_some_iff,Option.some.injEq]at h
 obtain ⟨vs,h1,p,h2,r,h3,h4,h5,rfl⟩:=h
 exact ⟨qfe vs,_,_,qh2 (qft h1),.cons (qlJ h2) (qgI h3),qcc h4,qgE h5⟩
def qfZ:Exit→Bool | .normal=>true | .ret=>true | _=>false
theorem qfu {e:Exit} (h:qfZ e=true):e= .normal∨e= .ret:=by cases e<;>simp [qfZ]at h ⊢
abbrev Own:=FuncId→Option (List Nat→List AVal→Option Res)
def quD:AVal→Bool | .usl _ _=>true | _=>false
def qek (fn:Func) (code:Code) (ex:List Nat) (ds:List AVal):Bool:=
 qb7 fn.ntmps code&&decide (ds.length≤fn.ntmps)&&qcI ((qa9 qac.nil 0 0 ds).map (·.1))&&ex.all fun k=>quD (ds.getD k .junk)
noncomputable def qj1 (E:Env) (M:Mds) (C:Or2) (n:Nat) (f:FuncId) (ex:List Nat) (ds:List AVal):Option Res:=
 (E.P.funcs[f]?).bind fun fn=>fn.body.bind fun code=>gu (qek fn code ex ds=true)
 ((evC E (M.at f) C (M.loc f) n code (qhM ex ds)).bind fun p=>gu (qfZ p.1=true) (qxP E fn.results.toList (M.res f) (E.P.resK f) ds p.2.fr p.2.H))
def quE (fn:Func) (code:Code) (vals:List AVal):Bool:=qb7 fn.ntmps code&&decide (vals.length≤fn.ntmps)
def frm (vals:List AVal):Nat→AVal:=fun t=>vals.getD t .junk
noncomputable def ovE (P:Program) (f:FuncId) (vals:List AVal) (H:qac):Option (AVal×qac):=match vals with
 | [.osl o1 g1 _ n1,.osl o2 g2 _ n2]=>@gu _ (OvF P f) (Classical.propDecidable _) (gu (¬o1=o2) (gu (1≤n1) (gu (1≤n2) (gu ((H o1).gen=g1) (gu ((H o1).mode= .live) (gu (2≤(H o1).st) (gu ((H o2).gen=g2) (gu ((H o2).mode= .live) (gu (2≤(H o2).st) (some (.bool false,H)))))))))))
 | _=>none
noncomputable def qgJ (E:Env) (M:Mds) (C:Or2) (n:Nat) (f:FuncId) (vals:List AVal) (H:qac):Option (AVal×qac):=
 if E.P.exFn f=true then ovE E.P f vals H else
 (E.P.funcs[f]?).bind fun fn=>fn.body.bind fun code=>gu (quE fn code vals=true)
 ((evC E (M.inat f) C (M.loc f) n code ⟨frm vals,H⟩).bind fun p=>gu (qfZ p.1=true) ((qqe E p.2.fr p.2.H fn.results.toList).bind fun vs=>some (qfe vs,p.2.H)))
noncomputable def evP (E:Env) (M:Mds) (X:Own):Nat→Or2
 | 0=>⟨fun _ _ _=>none,fun _ _ _=>none⟩
 | n+1=>⟨fun f ex ds=>match X f with
  | some g=>g ex ds
  | none=>qj1 E M (evP E M X n) n f ex ds,fun f vals H=>qgJ E M (evP E M X n) n f vals H⟩
theorem quF {E:Env} {M:Mds} {C C':Or2} (h:LeC C C') {n n':Nat} (hn:n≤n') (f ex ds):LeO (qj1 E M C n f ex ds) (qj1 E M C' n' f ex ds):=
 LeO.bind (LeO.refl _) fun fn=>LeO.bind (LeO.refl _) fun code=>LeO.gu (LeO.bind (qbT h hn _ _) fun _=>LeO.refl _)
theorem quG {E:Env} {M:Mds} {C C':Or2} (h:LeC C C') {n n':Nat} (hn:n≤n') (f vals H):LeO (qgJ E M C n f vals H) (qgJ E M C' n' f vals H):=by
 unfold qgJ
 split
 ·exact LeO.refl _
 ·exact LeO.bind (LeO.refl _) fun fn=>LeO.bind (LeO.refl _) fun code=>LeO.gu (LeO.bind (qbT h hn _ _) fun _=>LeO.refl _)
theorem qc6 {E:Env} {M:Mds} {X:Own}:∀{n n':Nat},n≤n'→LeC (evP E M X n) (evP E M X n')
 | 0,_,_=>⟨fun _ _ _ _ h=>(by cases h),fun _ _ _ _ h=>(by cases h)⟩
 | n+1,0,h=>by omega
 | n+1,n'+1,h=>⟨fun f ex ds=>by
  simp only [evP]
  split
  ·exact LeO.refl _
  ·exact quF (qc6 (Nat.le_of_succ_le_succ h)) (Nat.le_of_succ_le_succ h) f ex ds,fun f vals H=>by
  simp only [evP]
  exact quG (qc6 (Nat.le_of_succ_le_succ h)) (Nat.le_of_succ_le_succ h) f vals H⟩
noncomputable def fnE (E:Env) (M:Mds) (X:Own):Orc:=fun f ex ds=>qCd fun n=>(evP E M X n).c f ex ds
noncomputable def inE (E:Env) (M:Mds) (X:Own):Inl:=fun f vals H=>qCd fun n=>(evP E M X n).i f vals H
noncomputable def fnP (E:Env) (M:Mds) (X:Own):Or2:=⟨fnE E M X,inE E M X⟩
theorem qgc (E:Env) (M:Mds) (X:Own) (f ex ds):qF1 fun n=>(evP E M X n).c f ex ds:=fun _ _ h=>(qc6 h).1 f ex ds
theorem qgd (E:Env) (M:Mds) (X:Own) (f vals H):qF1 fun n=>(evP E M X n).i f vals H:=fun _ _ h=>(qc6 h).2 f vals H
theorem qq8 (E:Env) (M:Mds) (X:Own) (n:Nat):LeC (evP E M X n) (fnP E M X):=⟨fun f ex ds x h=>(qcy (qgc E M X f ex ds) x).2 ⟨n,h⟩,fun f vals H x h=>(qcy (qgd E M X f vals H) x).2 ⟨n,h⟩⟩
section
variable {E:Env} {M:Mds} {X:Own} {lo:Nat}
theorem qq9 {A:Nat→Orc} {B:Orc} (hA:∀f ex ds q,B f ex ds=some q→∃n,A n f ex ds=some q) {f vals dst H q} (h:qeu E M B f vals dst H=some q):∃n,qeu E M (A n) f vals dst H=some q:=by
 simp only [qeu,qag,Option.bind_eq_some_iff]at h
 obtain ⟨h1,p,h2,h3,h4,r,h5,h6⟩:=h
 obtain ⟨n,hn⟩:=hA _ _ _ _ h5
 exact ⟨n,by simp only [qeu,qag,Option.bind_eq_some_iff];exact ⟨h1,p,h2,h3,h4,r,hn,h6⟩⟩
theorem qy0 (gh dst ρ):∀f ex ds q,ghO gh dst ρ (fnE E M X) f ex ds=some q→∃n,ghO gh dst ρ (evP E M X n).c f ex ds=some q:=by
 have h0:∀f ex ds q,fnE E M X f ex ds=some q→∃n,(evP E M X n).c f ex ds=some q:=fun f ex ds q h=>(qcy (qgc E M X f ex ds) q).1 h
 have h1:∀f ex ds q,qc5 (fnE E M X) f ex ds=some q→∃n,qc5 (evP E M X n).c f ex ds=some q:=fun f ex ds q h=>by
  unfold qc5 at h ⊢
  rw [Option.map_eq_some_iff]at h
  obtain ⟨r,g1,g2⟩:=h
  obtain ⟨n,hn⟩:=h0 _ _ _ _ g1
  exact ⟨n,by rw [hn];simp [g2]⟩
 intro f ex ds q h
 cases gh with
 | none=>exact h0 _ _ _ _ h
 | some p=>
  obtain ⟨d,t,m⟩:=p
  by_cases hd:dst=some d
  ·have e:∀C:Orc,ghO (some (d,t,m)) dst ρ C=(match ρ (.tmp t)with | .int _ m'=>if m'=m then C else qc5 C | _=>C):=fun C=>by simp only [ghO,if_pos hd];cases ρ (.tmp t)<;>rfl
   rw [e]at h
   cases hr:ρ (.tmp t)<;>simp only [hr]at h e
   case int k m'=>
    by_cases hm:m'=m
    ·rw [if_pos hm]at h
     obtain ⟨n,hn⟩:=h0 _ _ _ _ h
     exact ⟨n,by rw [e,if_pos hm];exact hn⟩
    ·rw [if_neg hm]at h
     obtain ⟨n,hn⟩:=h1 _ _ _ _ h
     exact ⟨n,by rw [e,if_neg hm];exact hn⟩
   all_goals
    obtain ⟨n,hn⟩:=h0 _ _ _ _ h
    exact ⟨n,by rw [e];exact hn⟩
  ·have e:∀C:Orc,ghO (some (d,t,m)) dst ρ C=C:=fun C=>by simp only [ghO,if_neg hd]
   rw [e]at h
   obtain ⟨n,hn⟩:=h0 _ _ _ _ h
   exact ⟨n,by rw [e];exact hn⟩
theorem qy1 {op dst ρ H q} (h:opE E M (fnE E M X) op dst ρ H=some q):∃n,opE E M (evP E M X n).c op dst ρ H=some q:=by
 rcases qgH E M (fnE E M X) op dst ρ H with ⟨g,args,ts,rfl⟩|h'
 ·simp only [opE]at h ⊢
  split at h
  ·exact qq9 (A:=fun n=>ghO M.gh dst ρ (evP E M X n).c) (qy0 _ _ _) h
  ·cases h
 ·exact ⟨0,by rw [←h' _];exact h⟩
theorem qra {op dst ρ H q} (h:opS E M (fnP E M X) op dst ρ H=some q):∃n,opS E M (evP E M X n) op dst ρ H=some q:=by
 unfold opS at h ⊢
 split at h
 ·simp only [qag,Option.bind_eq_some_iff]at h
  obtain ⟨h1,r,h2,h3⟩:=h
  obtain ⟨n,hn⟩:=(qcy (qgd E M X _ _ _) _).1 h2
  exact ⟨n,by simp only [qag,Option.bind_eq_some_iff];exact ⟨h1,r,hn,h3⟩⟩
 ·rw [Option.bind_eq_some_iff]at h
  obtain ⟨r,h1,h2⟩:=h
  obtain ⟨n,hn⟩:=qy1 h1
  exact ⟨n,by simp only [hn,Option.bind_some];exact h2⟩
theorem qj2 {ops o s q} (h:qfs E M (fnP E M X) ops o s=some q):∃n,qfs E M (evP E M X n) ops o s=some q:=by
 cases hg:o.guard with
 | none=>
  simp only [qfs,hg,Option.bind_eq_some_iff]at h ⊢
  obtain ⟨r,h1,h2⟩:=h
  obtain ⟨n,hn⟩:=qra h1
  exact ⟨n,r,hn,h2⟩
 | some jw=>
  obtain ⟨j,want⟩:=jw
  simp only [qfs,hg]at h ⊢
  rw [Option.bind_eq_some_iff]at h
  obtain ⟨d,h0,h⟩:=h
  rw [h0]
  simp only [Option.bind_some]
  split at h
  ·rename_i t hd
   split at h
   ·rename_i ht
    rw [Option.bind_eq_some_iff]at h
    obtain ⟨r,h1,h2⟩:=h
    obtain ⟨n,hn⟩:=qra h1
    exact ⟨n,by rw [if_pos ht,hn];exact h2⟩
   ·rename_i ht
    exact ⟨0,by rw [if_neg ht];exact h⟩
  ·exact ⟨0,h⟩
  ·cases h
theorem qnh {ops}:∀{l s q},qoD E M (fnP E M X) ops l s=some q→∃n,qoD E M (evP E M X n) ops l s=some q
 | [],_,_,h=>⟨0,h⟩
 | o::l,s,q,h=>by
  simp only [qoD,Option.bind_eq_some_iff]at h ⊢
  obtain ⟨r,h1,h2⟩:=h
  obtain ⟨n,hn⟩:=qj2 h1
  obtain ⟨m,hm⟩:=qnh h2
  exact ⟨max n m,r,qgb (qc6 (Nat.le_max_left n m)) _ _ _ _ hn,qlH (qc6 (Nat.le_max_right n m)) _ _ _ _ hm⟩
theorem qni {ops}:∀{l s tr q},qng E M (fnP E M X) ops l s tr=some q→∃n,qng E M (evP E M X n) ops l s tr=some q
 | [],_,_,_,h=>⟨0,h⟩
 | o::l,s,tr,q,h=>by
  simp only [qng,Option.bind_eq_some_iff]at h ⊢
  obtain ⟨r,h1,h2⟩:=h
  obtain ⟨n,hn⟩:=qj2 h1
  obtain ⟨m,hm⟩:=qni h2
  exact ⟨max n m,r,qgb (qc6 (Nat.le_max_left n m)) _ _ _ _ hn,qlI (qc6 (Nat.le_max_right n m)) _ _ _ _ _ hm⟩
theorem qj3 {F:St→Option (Exit×St)} {G:Nat→St→Option (Exit×St)} (hG:∀n n',n≤n'→∀s,LeO (G n s) (G n' s)) (h:∀s q,F s=some q→∃n,G n s=some q):∀{k s q},qcZ F k s=some q→∃n,qcZ (G n) k s=some q
 | 0,_,_,h=>by simp [qcZ]at h
 | k+1,s,q,hk=>by
  simp only [qcZ,Option.bind_eq_some_iff]at hk ⊢
  obtain ⟨⟨e,s'⟩,h1,h2⟩:=hk
  obtain ⟨n,hn⟩:=h s _ h1
  cases e with
  | normal=>
   obtain ⟨m,hm⟩:=qj3 hG h h2
   exact ⟨max n m,(.normal,s'),hG _ _ (Nat.le_max_left n m) _ _ hn,qe0 (hG _ _ (Nat.le_max_right n m)) (Nat.le_refl _) _ _ hm⟩
  | _=>exact ⟨n,_,hn,h2⟩
theorem qc0 {k:Nat}:∀{c:Code} {s q},evC E M (fnP E M X) lo k c s=some q→∃n,evC E M (evP E M X n) lo k c s=some q
 | .skip,_,_,h=>⟨0,h⟩
 | .label _,_,_,h=>⟨0,h⟩
 | .region _ ops draw,s,q,h=>by
  simp only [evC,Option.bind_eq_some_iff]at h ⊢
  obtain ⟨r,h1,h2⟩:=h
  cases draw with
  | true=>
   simp only [if_true]at h1 ⊢
   obtain ⟨n,hn⟩:=qni h1
   exact ⟨n,r,hn,h2⟩
  | false=>
   simp only [Bool.false_eq_true,if_false]at h1 ⊢
   obtain ⟨n,hn⟩:=qnh h1
   exact ⟨n,r,hn,h2⟩
 | .seq a b,s,q,h=>by
  simp only [evC,Option.bind_eq_some_iff]at h ⊢
  obtain ⟨⟨e,s'⟩,h1,h2⟩:=h
  obtain ⟨n,hn⟩:=qc0 h1
  cases e with
  | normal=>
   obtain ⟨m,hm⟩:=qc0 h2
   exact ⟨max n m,(.normal,s'),qbT (qc6 (Nat.le_max_left n m)) (Nat.le_refl _) _ _ _ hn,qbT (qc6 (Nat.le_max_right n m)) (Nat.le_refl _) _ _ _ hm⟩
  | _=>exact ⟨n,_,hn,h2⟩
 | .cond x a b,s,q,h=>by
  simp only [evC]at h ⊢
  split at h
  ·split at h
   ·rename_i ht
    obtain ⟨n,hn⟩:=qc0 h
    exact ⟨n,by rw [if_pos ht];exact hn⟩
   ·rename_i ht
    obtain ⟨n,hn⟩:=qc0 h
    exact ⟨n,by rw [if_neg ht];exact hn⟩
  ·cases h
 | .block id b,s,q,h=>by
  simp only [evC,Option.bind_eq_some_iff]at h ⊢
  obtain ⟨p,h1,h2⟩:=h
  obtain ⟨n,hn⟩:=qc0 h1
  exact ⟨n,p,hn,h2⟩
 | .loop b,s,q,h=>by
  simp only [evC]at h ⊢
  exact qj3 (fun n n' hn s=>qbT (qc6 hn) (Nat.le_refl _) b s) (fun s q h=>qc0 h) h
 | .exit _,_,_,h=>⟨0,h⟩
 | .ret,_,_,h=>⟨0,h⟩
 | .rangeFunc _ _ _ _,_,_,h=>⟨0,h⟩
 | .scope b,s,q,h=>by
  simp only [evC,Option.bind_eq_some_iff]at h ⊢
  obtain ⟨p,h1,h2⟩:=h
  obtain ⟨n,hn⟩:=qc0 h1
  exact ⟨n,p,hn,h2⟩
 | .goto _,_,_,h=>⟨0,h⟩
 | .refuse _,_,_,h=>⟨0,h⟩
noncomputable def evI (E:Env) (M:Mds) (X:Own) (lo:Nat) (c:Code) (s:St):Option (Exit×St):=qCd fun n=>evC E M (fnP E M X) lo n c s
theorem qiI (E:Env) (M:Mds) (X:Own) (lo:Nat) (c:Code) (s:St):qF1 fun n=>evC E M (fnP E M X) lo n c s:=fun _ _ h=>qbT (LeC.refl _) h c s
theorem qay {c:Code} {s:St} {q}:evI E M X lo c s=some q↔∃n,evC E M (fnP E M X) lo n c s=some q:=qcy (qiI E M X lo c s) q
theorem qdp {α:Type} {a b:Option α} (h:∀x,a=some x↔b=some x):a=b:=Option.ext h
theorem quH (s:St):evI E M X lo .skip s=some (.normal,s):=qay.2 ⟨0,rfl⟩
theorem qrb (l) (s:St):evI E M X lo (.label l) s=some (.normal,s):=qay.2 ⟨0,rfl⟩
theorem quI (l) (s:St):evI E M X lo (.exit l) s=some (.exit l,s):=qay.2 ⟨0,rfl⟩
theorem qy2 (s:St):evI E M X lo .ret s=some (.ret,s):=qay.2 ⟨0,rfl⟩
theorem qh4 (id ops draw) (s:St):evI E M X lo (.region id ops draw) s=(if draw=true then qng E M (fnP E M X) ops ops.toList s [] else qoD E M (fnP E M X) ops ops.toList s).bind fun s=>some (.normal,⟨qdo lo s.fr,s.H⟩):=
 qdp fun q=>qay.trans ⟨fun ⟨_,h⟩=>h,fun h=>⟨0,h⟩⟩
theorem qy3 (a b) (s:St):evI E M X lo (.seq a b) s=(evI E M X lo a s).bind fun p=>match p.1 with | .normal=>evI E M X lo b p.2 | e=>some (e,p.2):=by
 refine qdp fun q=>qay.trans ⟨?_,?_⟩
 ·rintro ⟨n,h⟩
  simp only [evC,Option.bind_eq_some_iff]at h ⊢
  obtain ⟨⟨e,s'⟩,h1,h2⟩:=h
  refine ⟨(e,s'),qay.2 ⟨n,h1⟩,?_⟩
  cases e with
  | normal=>exact qay.2 ⟨n,h2⟩
  | _=>exact h2
 ·intro h
  rw [Option.bind_eq_some_iff]at h
  obtain ⟨⟨e,s'⟩,h1,h2⟩:=h
  obtain ⟨n,hn⟩:=qay.1 h1
  simp only [evC,Option.bind_eq_some_iff]
  cases e with
  | normal=>
   obtain ⟨m,hm⟩:=qay.1 h2
   exact ⟨max n m,(.normal,s'),qiI E M X lo _ _ _ _ (Nat.le_max_left n m) _ hn,qiI E M X lo _ _ _ _ (Nat.le_max_right n m) _ hm⟩
  | _=>exact ⟨n,_,hn,h2⟩
theorem quJ (x a b) (s:St):evI E M X lo (.cond x a b) s=match ev E.Γ s.fr x with | .bool t=>if t=true then evI E M X lo a s else evI E M X lo b s | _=>none:=by
 refine qdp fun q=>qay.trans ?_
 simp only [evC]
 split
 ·split
  ·exact qay.symm
  ·exact qay.symm
 ·simp
theorem qrc (id b) (s:St):evI E M X lo (.block id b) s=(evI E M X lo b s).bind fun p=>match p.1 with | .exit i=>if i=id then some (.normal,p.2) else some (.exit i,p.2)|e=>some (e,p.2):=by
 refine qdp fun q=>qay.trans ⟨?_,?_⟩
 ·rintro ⟨n,h⟩
  simp only [evC,Option.bind_eq_some_iff]at h ⊢
  obtain ⟨p,h1,h2⟩:=h
  exact ⟨p,qay.2 ⟨n,h1⟩,h2⟩
 ·intro h
  rw [Option.bind_eq_some_iff]at h
  obtain ⟨p,h1,h2⟩:=h
  obtain ⟨n,hn⟩:=qay.1 h1
  exact ⟨n,by simp only [evC,Option.bind_eq_some_iff];exact ⟨p,hn,h2⟩⟩
theorem qrd (b) (s:St):evI E M X lo (.scope b) s=(evI E M X lo b s).bind fun p=>match p.1 with | .goto _=>none | e=>some (e,p.2):=by
 refine qdp fun q=>qay.trans ⟨?_,?_⟩
 ·rintro ⟨n,h⟩
  simp only [evC,Option.bind_eq_some_iff]at h ⊢
  obtain ⟨p,h1,h2⟩:=h
  exact ⟨p,qay.2 ⟨n,h1⟩,h2⟩
 ·intro h
  rw [Option.bind_eq_some_iff]at h
  obtain ⟨p,h1,h2⟩:=h
  obtain ⟨n,hn⟩:=qay.1 h1
  exact ⟨n,by simp only [evC,Option.bind_eq_some_iff];exact ⟨p,hn,h2⟩⟩
theorem quK (b) (s:St):evI E M X lo (.loop b) s=(evI E M X lo b s).bind fun p=>match p.1 with | .normal=>evI E M X lo (.loop b) p.2 | e=>some (e,p.2):=by
 refine qdp fun q=>qay.trans ⟨?_,?_⟩
 ·rintro ⟨n,h⟩
  cases n with
  | zero=>simp [evC,qcZ]at h
  | succ n=>
   simp only [evC,qcZ,Option.bind_eq_some_iff]at h
   rw [Option.bind_eq_some_iff]
   obtain ⟨⟨e,s'⟩,h1,h2⟩:=h
   refine ⟨(e,s'),qay.2 ⟨n+1,h1⟩,?_⟩
   cases e with
   | normal=>exact qay.2 ⟨n+1,by simp only [evC];exact qe0 (fun s=>LeO.refl _) (Nat.le_succ n) _ _ h2⟩
   | _=>exact h2
 ·intro h
  rw [Option.bind_eq_some_iff]at h
  obtain ⟨⟨e,s'⟩,h1,h2⟩:=h
  obtain ⟨n,hn⟩:=qay.1 h1
  cases e with
  | normal=>
   obtain ⟨m,hm⟩:=qay.1 h2
   refine ⟨max n m+1,?_⟩
   simp only [evC,qcZ,Option.bind_eq_some_iff]at hm ⊢
   exact ⟨(.normal,s'),qbT (LeC.refl _) (by omega) _ _ _ hn,qe0 (fun s=>qbT (LeC.refl _) (by omega) _ _) (Nat.le_max_right n m) _ _ hm⟩
  | _=>
   refine ⟨n+1,?_⟩
   simp only [evC,qcZ,Option.bind_eq_some_iff]
   exact ⟨_,qbT (LeC.refl _) (by omega) _ _ _ hn,h2⟩
theorem qnj {M':Mds} (h1:∀g,M'.at g=M.at g) (h2:∀g,M'.inat g=M.inat g) (h3:M'.loc=M.loc) (h4:M'.res=M.res):∀n,evP E M' X n=evP E M X n
 | 0=>rfl
 | n+1=>by
  simp only [evP,qnj h1 h2 h3 h4 n,qj1,qgJ,h1,h2,h3,h4]
theorem qxQ {M':Mds} (h1:∀g,M'.at g=M.at g) (h2:∀g,M'.inat g=M.inat g) (h3:M'.loc=M.loc) (h4:M'.res=M.res):fnP E M' X=fnP E M X:=by
 unfold fnP fnE inE
 simp only [qnj h1 h2 h3 h4]
theorem qCe (f:FuncId) (n):evP E (M.at f) X n=evP E M X n:=qnj (M:=M) (M':=M.at f) (fun _=>rfl) (fun _=>rfl) rfl rfl n
theorem qre (f:FuncId):fnP E (M.at f) X=fnP E M X:=qxQ (M:=M) (M':=M.at f) (fun _=>rfl) (fun _=>rfl) rfl rfl
theorem quL (f:FuncId) (n):evP E (M.inat f) X n=evP E M X n:=qnj (M:=M) (M':=M.inat f) (fun _=>rfl) (fun _=>rfl) rfl rfl n
theorem qiJ (f:FuncId):fnP E (M.inat f) X=fnP E M X:=qxQ (M:=M) (M':=M.inat f) (fun _=>rfl) (fun _=>rfl) rfl rfl
theorem qCf (f:FuncId):fnE E (M.at f) X=fnE E M X:=congrArg Or2.c (qre f)
theorem qCg (f:FuncId):inE E (M.at f) X=inE E M X:=congrArg Or2.i (qre f)
theorem quM (f:FuncId):fnE E (M.inat f) X=fnE E M X:=congrArg Or2.c (qiJ f)
theorem quN (f:FuncId):inE E (M.inat f) X=inE E M X:=congrArg Or2.i (qiJ f)
theorem qxR (f ex ds):fnE E M X f ex ds=match X f with
  | some g=>g ex ds
  | none=>(E.P.funcs[f]?).bind fun fn=>fn.body.bind fun code=>gu (qek fn code ex ds=true)
    ((evI E (M.at f) X (M.loc f) code (qhM ex ds)).bind fun p=>gu (qfZ p.1=true) (qxP E fn.results.toList (M.res f) (E.P.resK f) ds p.2.fr p.2.H)):=by
 refine qdp fun q=>(qcy (qgc E M X f ex ds) q).trans ?_
 cases hg:X f with
 | some g=>
  constructor
  ·rintro ⟨n,h⟩
   cases n with
   | zero=>cases h
   | succ n=>simp only [evP,hg]at h;exact h
  ·intro h;exact ⟨1,by simp only [evP,hg];exact h⟩
 | none=>
  constructor
  ·rintro ⟨n,h⟩
   cases n with
   | zero=>cases h
   | succ n=>
    simp only [evP,hg,qj1,qag,Option.bind_eq_some_iff]at h ⊢
    obtain ⟨fn,h1,code,h2,h3,p,h4,h5⟩:=h
    exact ⟨fn,h1,code,h2,h3,p,qay.2 ⟨n,by rw [qre];exact qbT (qq8 E M X n) (Nat.le_refl _) _ _ _ h4⟩,h5⟩
  ·intro h
   simp only [qag,Option.bind_eq_some_iff]at h
   obtain ⟨fn,h1,code,h2,h3,p,h4,h5⟩:=h
   obtain ⟨k,hk⟩:=qay.1 h4
   obtain ⟨n,hn⟩:=qc0 hk
   rw [qCe]at hn
   refine ⟨max n k+1,?_⟩
   simp only [evP,hg,qj1,qag,Option.bind_eq_some_iff]
   exact ⟨fn,h1,code,h2,h3,p,qbT (qc6 (Nat.le_max_left n k)) (Nat.le_max_right n k) _ _ _ hn,h5⟩
theorem qCh {f} (hx:E.P.exFn f=true) (vals H):inE E M X f vals H=ovE E.P f vals H:=by
 refine qdp fun q=>(qcy (qgd E M X f vals H) q).trans ?_
 constructor
 ·rintro ⟨n,h⟩
  cases n with
  | zero=>cases h
  | succ n=>simpa only [evP,qgJ,if_pos hx]using h
 ·intro h
  exact ⟨1,by simpa only [evP,qgJ,if_pos hx]using h⟩
theorem qCi (f vals H) (hx:¬E.P.exFn f=true):inE E M X f vals H=(E.P.funcs[f]?).bind fun fn=>fn.body.bind fun code=>gu (quE fn code vals=true)
  ((evI E (M.inat f) X (M.loc f) code ⟨frm vals,H⟩).bind fun p=>gu (qfZ p.1=true) ((qqe E p.2.fr p.2.H fn.results.toList).bind fun vs=>some (qfe vs,p.2.H))):=by
 refine qdp fun q=>(qcy (qgd E M X f vals H) q).trans ?_
 constructor
 ·rintro ⟨n,h⟩
  cases n with
  | zero=>cases h
  | succ n=>
   simp only [evP,qgJ,if_neg hx,qag,Option.bind_eq_some_iff]at h ⊢
   obtain ⟨fn,h1,code,h2,h3,p,h4,h5⟩:=h
   exact ⟨fn,h1,code,h2,h3,p,qay.2 ⟨n,by rw [qiJ];exact qbT (qq8 E M X n) (Nat.le_refl _) _ _ _ h4⟩,h5⟩
 ·intro h
  simp only [qag,Option.bind_eq_some_iff]at h
  obtain ⟨fn,h1,code,h2,h3,p,h4,h5⟩:=h
  obtain ⟨k,hk⟩:=qay.1 h4
  obtain ⟨n,hn⟩:=qc0 hk
  rw [quL]at hn
  refine ⟨max n k+1,?_⟩
  simp only [evP,qgJ,if_neg hx,qag,Option.bind_eq_some_iff]
  exact ⟨fn,h1,code,h2,h3,p,qbT (qc6 (Nat.le_max_left n k)) (Nat.le_max_right n k) _ _ _ hn,h5⟩
end
section
variable {E:Env} {M:Mds} {C:Or2} {lo:Nat}
def qlK (E:Env) (C:Or2):Prop:=qlF E C.c∧∀f vals H q,C.i f vals H=some q→qer E f vals H q.1 q.2
theorem qrf {op:Op} {ρ:Operand→AVal} {q} (h:qCa M op ρ=some q):∃cl g f fs cs,op= .call cl∧cl.callee= .value g∧ρ g= .fn (.func f) fs cs∧q=(f,fs++cl.args.toList.map ρ++cs):=by
 unfold qCa at h
 split at h
 ·rename_i g args ts
  split at h
  ·rename_i f fs cs hg
   split at h
   ·cases h
   ·simp only [Option.some.injEq]at h
    exact ⟨_,g,f,fs,cs,rfl,rfl,hg,h.symm⟩
  ·cases h
 ·cases h
theorem qgK (hC:qlK E C) {ops o s q} (h:qfs E M C ops o s=some q):qgx E ops o s q.1 q.2.1 q.2.2:=by
 have hop:∀(r:Stp),opS E M C o.op o.dst (ev E.Γ s.fr) s.H=some r→(∃v rd up,(∃sd,qqd E o.op sd (ev E.Γ s.fr) s.H v rd up)∧r=(v,s.H.setAll up,rd,up.map (·.1)))∨
   ∃v H' wr cl g f fs cs,(o.op= .call cl∧cl.callee= .value g∧ev E.Γ s.fr g= .fn (.func f) fs cs∧E.P.inFn f=true∧qer E f (fs++cl.args.toList.map (ev E.Γ s.fr)++cs) s.H v H')∧(wr=[ALL]∨(wr=[]∧H'=s.H))∧r=(v,H',[ALL],wr):=fun r hr=>by
  unfold opS at hr
  split at hr
  ·rename_i p hp
   obtain ⟨cl,g,f,fs,cs,h1,h2,h3,rfl⟩:=qrf hp
   simp only [qag,Option.bind_eq_some_iff]at hr
   obtain ⟨h4,r',h5,h6⟩:=hr
   unfold qyY at h6
   split at h6
   ·simp only [Option.some.injEq]at h6
    subst h6
    exact .inr ⟨r'.1,r'.2,_,cl,g,f,fs,cs,⟨h1,h2,h3,h4,hC.2 _ _ _ _ h5⟩,.inl rfl,rfl⟩
   ·simp only [qag,Option.some.injEq]at h6
    obtain ⟨h7,rfl⟩:=h6
    exact .inr ⟨r'.1,s.H,_,cl,g,f,fs,cs,⟨h1,h2,h3,h4,by have:=hC.2 _ _ _ _ h5;rwa [h7]at this⟩,.inr ⟨rfl,rfl⟩,rfl⟩
  ·simp only [Option.bind_eq_some_iff,Option.some.injEq]at hr
   obtain ⟨r',h5,rfl⟩:=hr
   obtain ⟨v,rd,up,h1,h2⟩:=qqi (qq5 hC.1 (K:=fun v rd up=>(v,rd,up)=r') h5 rfl)
   subst h2
   exact .inl ⟨v,rd,up,⟨_,h1⟩,rfl⟩
 unfold qfs at h
 split at h
 ·rename_i hg
  simp only [Option.bind_eq_some_iff,Option.some.injEq]at h
  obtain ⟨r,h1,rfl⟩:=h
  rcases hop r h1 with ⟨v,rd,up,⟨sd,ha⟩,rfl⟩|⟨v,H',wr,cl,g,f,fs,cs,ha,hwr,rfl⟩
  ·exact .inl ⟨v,up,⟨sd,by rw [hg];exact ha⟩,rfl,rfl⟩
  ·exact .inr ⟨v,H',⟨by rw [hg];trivial,cl,g,f,fs,cs,ha⟩,rfl,hwr,rfl⟩
 ·rename_i j want hg
  simp only [Option.bind_eq_some_iff]at h
  obtain ⟨d,⟨o',hd,hd'⟩,h⟩:=h
  have hd2:(ops[j]?).bind (·.dst)=some d:=by rw [hd];exact hd'
  split at h
  ·rename_i t ht
   split at h
   ·rename_i hw
    simp only [Option.bind_eq_some_iff,Option.some.injEq]at h
    obtain ⟨r,h1,rfl⟩:=h
    rcases hop r h1 with ⟨v,rd,up,⟨sd,ha⟩,rfl⟩|⟨v,H',wr,cl,g,f,fs,cs,ha,hwr,rfl⟩
    ·exact .inl ⟨v,up,⟨sd,by rw [hg];exact ⟨d,hd2,.inl ⟨by rw [ht,hw],ha⟩⟩⟩,rfl,rfl⟩
    ·exact .inr ⟨v,H',⟨by rw [hg];exact ⟨d,hd2,by rw [ht,hw]⟩,cl,g,f,fs,cs,ha⟩,rfl,hwr,rfl⟩
   ·rename_i hw
    simp only [Option.some.injEq]at h
    subst h
    exact .inl ⟨.sc undef,[],⟨none,by rw [hg];exact ⟨d,hd2,.inr ⟨.inl (by rw [ht];cases t<;>cases want<;>simp_all),rfl,rfl,rfl⟩⟩⟩,rfl,rfl⟩
  ·rename_i ht
   simp only [Option.some.injEq]at h
   subst h
   exact .inl ⟨.sc undef,[],⟨none,by rw [hg];exact ⟨d,hd2,.inr ⟨.inr ht,rfl,rfl,rfl⟩⟩⟩,rfl,rfl⟩
  ·cases h
theorem qh5 (hC:qlK E C) {ops}:∀{l s s'} {K:St→Prop},qoD E M C ops l s=some s'→K s'→qF0 E ops l s K
 | [],s,s',K,h,hk=>by simp only [qoD,Option.some.injEq]at h;subst h;exact hk
 | o::l,s,s',K,h,hk=>by
  simp only [qoD,Option.bind_eq_some_iff]at h
  obtain ⟨q,h1,h2⟩:=h
  exact ⟨q.1,q.2.1,q.2.2,qgK hC h1,qh5 hC h2 hk⟩
theorem qh6 (hC:qlK E C) {ops}:∀{l s s' tr} {K:St→Prop},qng E M C ops l s tr=some s'→K s'→qqO E ops l s tr (fun tr s'=>qeh ops tr=true∧K s')
 | [],s,s',tr,K,h,hk=>by simp only [qng,qag,Option.some.injEq]at h;obtain ⟨h1,rfl⟩:=h;exact ⟨h1,hk⟩
 | o::l,s,s',tr,K,h,hk=>by
  simp only [qng,Option.bind_eq_some_iff]at h
  obtain ⟨q,h1,h2⟩:=h
  exact ⟨q.1,q.2.1,q.2.2,qgK hC h1,qh6 hC h2 hk⟩
theorem qnk {p:Nat→Prop} (h:∃n,p n):∃n,p n∧∀m,p m→n≤m:=by
 obtain ⟨n,hn⟩:=h
 induction n using Nat.strongRecOn with
 | ind n ih=>
  by_cases hm:∃m,p m∧m<n
  ·obtain ⟨m,h1,h2⟩:=hm;exact ih m h2 h1
  ·exact ⟨n,hn,fun m hm'=>by
    rcases Nat.lt_or_ge m n with h | h
    ·exact absurd ⟨m,hm',h⟩ hm
    ·exact h⟩
open Classical in
noncomputable def qgL (p:Nat→Prop):Nat:=if h:∃n,p n then Classical.choose (qnk h) else 0
theorem qgM {p:Nat→Prop} (h:∃n,p n):p (qgL p)∧∀m,p m→qgL p≤m:=by
 unfold qgL
 rw [dif_pos h]
 exact Classical.choose_spec (qnk h)
theorem qh7 (s:St):qqQ s ⟨qdo lo s.fr,s.H⟩:=⟨rfl,fun t=>by
 show qdo lo s.fr t=_∨qdo lo s.fr t=_
 unfold qdo;split
 ·exact .inr rfl
 ·exact .inl rfl⟩
theorem qbK (hC:qlK E C) {n:Nat}:∀{c:Code} {s:St} {p:Exit×St} {Q:Exit→St→Prop},evC E M C lo n c s=some p→Q p.1 p.2→aw E c Q s
 | .skip,s,p,Q,h,hq=>by simp only [evC,Option.some.injEq]at h;subst h;exact hq
 | .label _,s,p,Q,h,hq=>by simp only [evC,Option.some.injEq]at h;subst h;exact hq
 | .region _ ops draw,s,p,Q,h,hq=>by
  simp only [evC,Option.bind_eq_some_iff,Option.some.injEq]at h
  obtain ⟨s',h1,rfl⟩:=h
  simp only [aw]
  cases draw with
  | true=>simp only [if_true]at h1 ⊢;exact ⟨s,qqQ.refl s,qh6 hC (K:=fun s'=>∃s2,qqQ s' s2∧Q .normal s2) h1 ⟨_,qh7 s',hq⟩⟩
  | false=>simp only [Bool.false_eq_true,if_false]at h1 ⊢;exact ⟨s,qqQ.refl s,qh5 hC h1 ⟨_,qh7 s',hq⟩⟩
 | .seq a b,s,p,Q,h,hq=>by
  simp only [evC,Option.bind_eq_some_iff]at h
  obtain ⟨r,h1,h2⟩:=h
  show aw E a (qyS (aw E b Q) Q) s
  refine qbK (p:=r) hC h1 ?_
  obtain ⟨e,s'⟩:=r
  cases e with
  | normal=>exact qbK hC h2 hq
  | _=>simp only [Option.some.injEq]at h2;subst h2;exact hq
 | .cond x a b,s,p,Q,h,hq=>by
  simp only [evC]at h
  split at h
  ·rename_i t ht
   refine ⟨t,ht,fun e=>?_,fun e=>?_⟩
   ·rw [if_pos e]at h;exact qbK hC h hq
   ·rw [if_neg (by simp [e])]at h;exact qbK hC h hq
  ·cases h
 | .block id b,s,p,Q,h,hq=>by
  simp only [evC,Option.bind_eq_some_iff]at h
  obtain ⟨r,h1,h2⟩:=h
  show aw E b (qf9 id Q) s
  refine qbK (p:=r) hC h1 ?_
  obtain ⟨e,s'⟩:=r
  cases e with
  | exit i=>
   simp only [qf9]at h2 ⊢
   split at h2
   ·rename_i hi;simp only [Option.some.injEq]at h2;subst h2;rw [if_pos hi];exact hq
   ·rename_i hi;simp only [Option.some.injEq]at h2;subst h2;rw [if_neg hi];exact hq
  | _=>simp only [Option.some.injEq]at h2;subst h2;exact hq
 | .loop b,s,p,Q,h,hq=>by
  simp only [evC]at h
  refine ⟨fun s=>∃m,qcZ (evC E M C lo n b) m s=some p,fun s=>qgL fun m=>qcZ (evC E M C lo n b) m s=some p,⟨n,h⟩,fun s' hs=>?_⟩
  obtain ⟨k1,k2⟩:=qgM hs
  generalize hm:qgL (fun m=>qcZ (evC E M C lo n b) m s'=some p)=m at k1 k2
  cases m with
  | zero=>simp [qcZ]at k1
  | succ m=>
   simp only [qcZ,Option.bind_eq_some_iff]at k1
   obtain ⟨r,h1,h2⟩:=k1
   refine qbK (p:=r) hC h1 ?_
   obtain ⟨e,s''⟩:=r
   cases e with
   | normal=>
    obtain ⟨j1,j2⟩:=qgM (p:=fun m=>qcZ (evC E M C lo n b) m s''=some p) ⟨m,h2⟩
    refine ⟨⟨m,h2⟩,?_⟩
    show qgL (fun m=>qcZ (evC E M C lo n b) m s''=some p)<qgL (fun m=>qcZ (evC E M C lo n b) m s'=some p)
    rw [hm]
    exact Nat.lt_succ_of_le (j2 m h2)
   | _=>simp only [Option.some.injEq]at h2;subst h2;exact hq
 | .exit _,s,p,Q,h,hq=>by simp only [evC,Option.some.injEq]at h;subst h;exact hq
 | .ret,s,p,Q,h,hq=>by simp only [evC,Option.some.injEq]at h;subst h;exact hq
 | .rangeFunc _ _ _ _,_,_,_,h,_=>by simp [evC]at h
 | .scope b,s,p,Q,h,hq=>by
  simp only [evC,Option.bind_eq_some_iff]at h
  obtain ⟨r,h1,h2⟩:=h
  show aw E b (qqP Q) s
  refine qbK (p:=r) hC h1 ?_
  obtain ⟨e,s'⟩:=r
  cases e with
  | goto l=>cases h2
  | _=>simp only [Option.some.injEq]at h2;subst h2;exact hq
 | .goto _,_,_,_,h,_=>by simp [evC]at h
 | .refuse _,_,_,_,h,_=>by simp [evC]at h
def qgN (E:Env) (X:Own):Prop:=∀f g ex ds q,X f=some g→g ex ds=some q→qdl E ex f ds q.1 q.2
theorem qoF {v:AVal} (h:quD v=true):∃st es,v= .usl st es:=by
 cases v<;>simp [quD]at h
 exact ⟨_,_,rfl⟩
theorem qlL (hm:E.P.follows .mixedOrders=true) (hC:qlK E C) {n f ex ds q} (h:qj1 E M C n f ex ds=some q):qdl E ex f ds q.1 q.2:=by
 simp only [qj1,qag,Option.bind_eq_some_iff]at h
 obtain ⟨fn,h1,code,h2,h3,p,h4,h5,h6⟩:=h
 simp only [qek,Bool.and_eq_true,decide_eq_true_eq]at h3
 obtain ⟨⟨⟨g1,g2⟩,g3⟩,g4⟩:=h3
 refine quA h1 h2 hm g1 g2 (qcc g3) (fun k hk=>?_) (qbK hC h4 ⟨qfu h5,qh3 h6⟩)
 have:=List.all_eq_true.1 g4 k hk
 obtain ⟨st,es,he⟩:=qoF this
 refine ⟨st,es,?_⟩
 rw [List.getD_eq_getElem?_getD]at he
 cases hd:ds[k]? with
 | none=>rw [hd]at he;cases he
 | some v=>rw [hd]at he;simp only [Option.getD_some]at he;rw [he]
theorem qlM (hm:E.P.follows .mixedOrders=true) (hC:qlK E C) {n f vals H q} (h:qgJ E M C n f vals H=some q):qer E f vals H q.1 q.2:=by
 unfold qgJ at h
 split at h
 ·unfold ovE at h
  split at h
  ·simp only [qag,Option.some.injEq]at h
   obtain ⟨h0,h1,h2,h3,h4,h5,h6,h7,h8,h9,rfl⟩:=h
   exact qux h0 h1 h4 h5 h6 h2 h7 h8 h9 h3
  ·cases h
 simp only [qag,Option.bind_eq_some_iff,Option.some.injEq]at h
 obtain ⟨fn,h1,code,h2,h3,p,h4,h5,vs,h6,rfl⟩:=h
 simp only [quE,Bool.and_eq_true,decide_eq_true_eq]at h3
 exact qB5 h1 h2 hm h3.1 h3.2 (qbK hC h4 ⟨qfu h5,qh2 (qft h6),rfl⟩)
theorem qe1 {X:Own} (hm:E.P.follows .mixedOrders=true) (hX:qgN E X):∀n,qlK E (evP E M X n)
 | 0=>⟨fun _ _ _ _ h=>(by cases h),fun _ _ _ _ h=>(by cases h)⟩
 | n+1=>⟨fun f ex ds q h=>by
  simp only [evP]at h
  split at h
  ·rename_i g hg;exact hX f g ex ds q hg h
  ·exact qlL hm (qe1 hm hX n) h,fun f vals H q h=>by
  simp only [evP]at h
  exact qlM hm (qe1 hm hX n) h⟩
theorem qam {X:Own} (hm:E.P.follows .mixedOrders=true) (hX:qgN E X) {f ex ds q} (h:fnE E M X f ex ds=some q):qdl E ex f ds q.1 q.2:=by
 obtain ⟨n,hn⟩:=(qcy (qgc E M X f ex ds) q).1 h
 exact (qe1 hm hX n).1 f ex ds q hn
end
end Go.Am
