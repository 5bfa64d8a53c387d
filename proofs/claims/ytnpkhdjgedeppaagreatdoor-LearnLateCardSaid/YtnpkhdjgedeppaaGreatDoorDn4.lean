import Derived.Test.YtnpkhdjgedeppaaGreatDoorDn3
namespace Go.Am
set_option linter.unusedSectionVars false
set_option linter.unusedVariables false
set_option linter.unusedSimpArgs false
structure Cf where
 E:Env
 M:Mds
 X:Own
noncomputable def fn (C:Cf):Orc:=fnE C.E C.M C.X
noncomputable def il (C:Cf):Inl:=inE C.E C.M C.X
noncomputable def fp (C:Cf):Or2:=fnP C.E C.M C.X
section
variable {α β:Type}
def kB (x:Option α) [K:Hold (α→Option β)]:Option β:=x.bind K.val
def kG (p:Prop) [Decidable p] [K:Hold (Option β)]:Option β:=if p then K.val else none
def kIf (t:Bool) [K:Hold (Option β×Option β)]:Option β:=if t=true then K.val.1 else K.val.2
def kD (p:Prop) [Decidable p] (a:p→Option β) (b:¬p→Option β):Option β:=if h:p then a h else b h
def kT (v:AVal) [K:Hold (Bool→Option β)]:Option β:=match v with | .bool t=>K.val t | _=>none
def kU (v:AVal) [K:Hold (Option β×Option β×Option β)]:Option β:=match v with | .bool t=>if t=true then K.val.1 else K.val.2.1 | .sc (.tuple ⟨[]⟩)=>K.val.2.2 | _=>none
def kI (v:AVal) [K:Hold (IntKind→Int→Option β)]:Option β:=match v with | .int k n=>K.val k n | _=>none
def kF (v:AVal) [K:Hold (FuncId→List AVal→List AVal→Option β)]:Option β:=match v with | .fn (.func f) fs cs=>K.val f fs cs | _=>none
theorem qAN (a:α) (K:α→Option β):@kB _ _ (some a) ⟨K⟩=K a:=rfl
theorem qAO (K:α→Option β):@kB α _ none ⟨K⟩=none:=rfl
theorem qAP (p:Prop) [Decidable p] (x:Option α) (K:α→Option β):@kB _ _ (gu p x) ⟨K⟩=@kG _ p _ ⟨@kB _ _ x ⟨K⟩⟩:=by
 unfold gu kG;split<;>rfl
theorem qJr {p:Prop} [Decidable p] (h:p) (x:Option β):@kG _ p _ ⟨x⟩=x:=by simp [kG,h]
theorem qv5 (a b:Option β):@kIf _ true ⟨(a,b)⟩=a:=rfl
theorem qso (a b:Option β):@kIf _ false ⟨(a,b)⟩=b:=rfl
theorem qv6 (t:Bool) (a b:Option β):@kIf _ t ⟨(a,b)⟩=kD (t=true) (fun _=>a) (fun _=>b):=by cases t<;>rfl
theorem qv7 {p p':Prop} {_:Decidable p} [Decidable p'] {a:p→Option β} {a':p'→Option β} {b:¬p→Option β} {b':¬p'→Option β} (h:p=p') (h1:(x:p')→a (h.mpr x)=a' x) (h2:(x:¬p')→b (h.mpr_not x)=b' x):kD p a b=kD p' a' b':=dite_congr h h1 h2
theorem qAQ {h:Decidable True} (a:True→Option β) (b:¬True→Option β):@kD _ True h a b=a trivial:=by simp [kD]
theorem qv8 {h:Decidable False} (a:False→Option β) (b:¬False→Option β):@kD _ False h a b=b not_false:=by simp [kD]
theorem qAR (p:Prop) [Decidable p] (a:Option β):kD p (fun _=>a) (fun _=>a)=a:=by simp [kD]
theorem qAS (t:Bool) (K:Bool→Option β):@kT _ (.bool t) ⟨K⟩=K t:=rfl
theorem qAT (t:Bool) (a b c:Option β):@kU _ (.bool t) ⟨(a,b,c)⟩=@kIf _ t ⟨(a,b)⟩:=rfl
theorem qv9 (a b c:Option β):@kU _ (.sc undef) ⟨(a,b,c)⟩=c:=rfl
theorem qEm (k n) (K:IntKind→Int→Option β):@kI _ (.int k n) ⟨K⟩=K k n:=rfl
theorem qJs (f fs cs) (K:FuncId→List AVal→List AVal→Option β):@kF _ (.fn (.func f) fs cs) ⟨K⟩=K f fs cs:=rfl
end
def qjp (n:St→Option Res) (Q:Exit→St→Option Res):Exit→St→Option Res
 | .normal,s=>n s
 | e,s=>Q e s
def qEn (id:Nat) (Q:Exit→St→Option Res):Exit→St→Option Res
 | .exit i,s=>if i=id then Q .normal s else Q (.exit i) s
 | e,s=>Q e s
def qIz (Q:Exit→St→Option Res):Exit→St→Option Res
 | .goto _,_=>none
 | e,s=>Q e s
noncomputable def dw (C:Cf) (lo:Nat) (c:Code) (Q:Exit→St→Option Res) (s:St):Option Res:=(evI C.E C.M C.X lo c s).bind fun p=>Q p.1 p.2
noncomputable def qd2 (f:Nat→AVal) (H:qac) [K:Hold (Cf×Nat×Code×(Exit→St→Option Res))]:Option Res:=dw K.val.1 K.val.2.1 (.loop K.val.2.2.1) K.val.2.2.2 ⟨f,H⟩
noncomputable def rN (C:Cf) (ops:Array Oper) (l:List Oper) (s:St) (K:St→Option Res):Option Res:=(qpz C.E C.M (fp C) ops l s).bind K
noncomputable def rD (C:Cf) (ops:Array Oper) (l:List Oper) (s:St) (tr:List (List Nat×List Nat)) (K:St→Option Res):Option Res:=(qoi C.E C.M (fp C) ops l s tr).bind K
def qsp (lo:Nat) (Q:Exit→St→Option Res):St→Option Res:=fun s=>Q .normal ⟨qdC lo s.fr,s.H⟩
noncomputable def qaQ (f:Nat→AVal) (H:qac) [K:Hold (Cf×Array Oper×Oper×(St→List Nat→List Nat→Option Res))]:Option Res:=
 (qfM K.val.1.E K.val.1.M (fp K.val.1) K.val.2.1 K.val.2.2.1 ⟨f,H⟩).bind fun q=>K.val.2.2.2 q.1 q.2.1 q.2.2
def qIA [K:Hold (Array Oper×List (List Nat×List Nat)×Option Res)]:Option Res:=if qex K.val.1 K.val.2.1=true then K.val.2.2 else none
section
variable (C:Cf) (lo:Nat) (Q:Exit→St→Option Res) (f:Nat→AVal) (H:qac) (s:St)
theorem qAU:dw C lo .skip Q s=Q .normal s:=by simp [dw,qvY]
theorem qwa (l):dw C lo (.label l) Q s=Q .normal s:=by simp [dw,qsj]
theorem qAV (l):dw C lo (.exit l) Q s=Q (.exit l) s:=by simp [dw,qvZ]
theorem qEo:dw C lo .ret Q s=Q .ret s:=by simp [dw,qAL]
theorem qEp (a b):dw C lo (.seq a b) Q s=dw C lo a (qjp (dw C lo b Q) Q) s:=by
 simp only [dw,qAM,Option.bind_assoc]
 congr 1
 funext p
 obtain ⟨e,s'⟩:=p
 cases e<;>rfl
theorem qAW (x a b):dw C lo (.cond x a b) Q ⟨f,H⟩=@kT _ (ev C.E.Γ f x) ⟨fun t=>@kIf _ t ⟨(dw C lo a Q ⟨f,H⟩,dw C lo b Q ⟨f,H⟩)⟩⟩:=by
 simp only [dw,qv0,kT]
 cases ev C.E.Γ f x<;>try rfl
 rename_i t
 cases t<;>rfl
theorem qwb (id b):dw C lo (.block id b) Q s=dw C lo b (qEn id Q) s:=by
 simp only [dw,qsk,Option.bind_assoc]
 congr 1
 funext p
 obtain ⟨e,s'⟩:=p
 cases e<;>try rfl
 rename_i i
 simp only [qEn]
 split<;>rfl
theorem qwc (b):dw C lo (.scope b) Q s=dw C lo b (qIz Q) s:=by
 simp only [dw,qsl,Option.bind_assoc]
 congr 1
 funext p
 obtain ⟨e,s'⟩:=p
 cases e<;>rfl
theorem qEq:qIz Q .normal s=Q .normal s:=rfl
theorem qEr:qIz Q .ret s=Q .ret s:=rfl
theorem qEs (i):qIz Q (.exit i) s=Q (.exit i) s:=rfl
theorem qAX (b):dw C lo (.loop b) Q ⟨f,H⟩=@qd2 f H ⟨(C,lo,b,Q)⟩:=rfl
theorem qdE (b):@qd2 f H ⟨(C,lo,b,Q)⟩=dw C lo b (qjp (fun s=>@qd2 s.fr s.H ⟨(C,lo,b,Q)⟩) Q) ⟨f,H⟩:=by
 simp only [qd2,dw]
 rw [qv1,Option.bind_assoc]
 congr 1
 funext p
 obtain ⟨e,s'⟩:=p
 cases e<;>rfl
theorem qAY (id ops):dw C lo (.region id ⟨ops⟩ false) Q s=rN C ⟨ops⟩ ops s (qsp lo Q):=by
 simp only [dw,qiE,rN,Bool.false_eq_true,if_false,Option.bind_assoc,Option.bind_some];rfl
theorem qAZ (id ops):dw C lo (.region id ⟨ops⟩ true) Q s=rD C ⟨ops⟩ ops s [] (qsp lo Q):=by
 simp only [dw,qiE,rD,if_true,Option.bind_assoc,Option.bind_some];rfl
theorem qsq:qsp lo Q ⟨f,H⟩=Q .normal ⟨qdC lo f,H⟩:=rfl
theorem qsr (t:Nat) (v:AVal):qdC lo (upd f t v)=if (lo >>> t) % 2=1 then qdC lo f else upd (qdC lo f) t v:=by
 funext i
 unfold qdC upd
 by_cases hi:i=t
 ·subst hi
  by_cases h:(lo >>> i) % 2=1<;>simp [h]
 ·by_cases h:(lo >>> t) % 2=1<;>simp [h,hi]
theorem qmX:qdC lo (qdC lo f)=qdC lo f:=by
 funext i;unfold qdC;split<;>rfl
theorem qwd (t:Nat):qdC lo f t=if (lo >>> t) % 2=1 then .junk else f t:=rfl
theorem qpC:qdC lo (fun _=>AVal.junk)=fun _=>AVal.junk:=by
 funext i;unfold qdC;split<;>rfl
theorem qA0 (n:St→Option Res):qjp n Q .normal s=n s:=rfl
theorem qA1 (n:St→Option Res):qjp n Q .ret s=Q .ret s:=rfl
theorem qA2 (n:St→Option Res) (i):qjp n Q (.exit i) s=Q (.exit i) s:=rfl
theorem qEt (id):qEn id Q .normal s=Q .normal s:=rfl
theorem qEu (id):qEn id Q .ret s=Q .ret s:=rfl
theorem qEv (id i):qEn id Q (.exit i) s=if i=id then Q .normal s else Q (.exit i) s:=rfl
end
section
variable (C:Cf) (ops:Array Oper) (f:Nat→AVal) (H:qac)
theorem qEw (s K):rN C ops [] s K=K s:=rfl
theorem qss (o l K):rN C ops (o::l) ⟨f,H⟩ K=@qaQ f H ⟨(C,ops,o,fun s' _ _=>rN C ops l s' K)⟩:=by
 simp only [rN,qpz,qaQ,Option.bind_assoc]
theorem qEx (s tr K):rD C ops [] s tr K=@qIA ⟨(ops,tr,K s)⟩:=by
 simp only [rD,qoi,qIA,gu];split<;>rfl
theorem qA3 (o l tr K):rD C ops (o::l) ⟨f,H⟩ tr K=@qaQ f H ⟨(C,ops,o,fun s' rd wr=>rD C ops l s' (tr++[(rd,wr)]) K)⟩:=by
 simp only [rD,qoi,qaQ,Option.bind_assoc]
theorem qA4 (tr K) (h:qex ops tr=true):@qIA ⟨(ops,tr,K)⟩=K:=by simp [qIA,h]
theorem qaH (d op ty pos af K):@qaQ f H ⟨(C,ops,⟨d,op,ty,pos,af,none⟩,K)⟩=@kB _ _ (opS C.E C.M (fp C) op d (ev C.E.Γ f) H) ⟨fun q=>K ⟨qaF f d q.1,q.2.1⟩ q.2.2.1 q.2.2.2⟩:=by
 simp only [qaQ,qfM,Option.bind_assoc,kB];rfl
theorem qcp (d op ty pos af j K):@qaQ f H ⟨(C,ops,⟨d,op,ty,pos,af,some (j,true)⟩,K)⟩=@kB _ _ (gd ops j) ⟨fun e=>@kU _ (f e)
  ⟨(@kB _ _ (opS C.E C.M (fp C) op d (ev C.E.Γ f) H) ⟨fun q=>K ⟨qaF f d q.1,q.2.1⟩ q.2.2.1 q.2.2.2⟩,K ⟨qaF f d (.sc undef),H⟩ [] [],K ⟨qaF f d (.sc undef),H⟩ [] [])⟩⟩:=by
 show ((((ops[j]?).bind (·.dst)).bind _).bind _)=((ops[j]?).bind (·.dst)).bind _
 rw [Option.bind_assoc]
 congr 1;funext e;unfold kU
 simp only
 cases f e<;>try rfl
 case bool t=>cases t<;>simp [kB,Option.bind_assoc]
 case sc x=>
  cases x<;>try rfl
  rename_i arr
  obtain ⟨l⟩:=arr
  cases l<;>rfl
theorem qbj (d op ty pos af j K):@qaQ f H ⟨(C,ops,⟨d,op,ty,pos,af,some (j,false)⟩,K)⟩=@kB _ _ (gd ops j) ⟨fun e=>@kU _ (f e)
  ⟨(K ⟨qaF f d (.sc undef),H⟩ [] [],@kB _ _ (opS C.E C.M (fp C) op d (ev C.E.Γ f) H) ⟨fun q=>K ⟨qaF f d q.1,q.2.1⟩ q.2.2.1 q.2.2.2⟩,K ⟨qaF f d (.sc undef),H⟩ [] [])⟩⟩:=by
 show ((((ops[j]?).bind (·.dst)).bind _).bind _)=((ops[j]?).bind (·.dst)).bind _
 rw [Option.bind_assoc]
 congr 1;funext e;unfold kU
 simp only
 cases f e<;>try rfl
 case bool t=>cases t<;>simp [kB,Option.bind_assoc]
 case sc x=>
  cases x<;>try rfl
  rename_i arr
  obtain ⟨l⟩:=arr
  cases l<;>rfl
def kC {β:Type} (m:Nat) [K:Hold (Option β×Option β)]:Option β:=if m=0 then K.val.1 else K.val.2
theorem qA5 {β:Type} (a b:Option β):@kC _ 0 ⟨(a,b)⟩=a:=rfl
theorem qA6 {β:Type} (n:Nat) (a b:Option β):@kC _ (n+1) ⟨(a,b)⟩=b:=rfl
theorem qav {op:Op} (h:∀ρ,qEd C.M op ρ=none) (d ρ H) {β:Type} (K:Stp→Option β):@kB _ _ (opS C.E C.M (fp C) op d ρ H) ⟨K⟩=@kB _ _ (opE C.E C.M (fn C) op d ρ H) ⟨fun q=>K (q.1,H.setAll q.2.2,q.2.1,q.2.2.map (·.1))⟩:=by
 unfold opS
 rw [h ρ]
 simp only [kB,Option.bind_assoc,Option.bind_some]
 rfl
theorem qjq (g args ts d ρ H) {β:Type} (K:Stp→Option β):@kB _ _ (opS C.E C.M (fp C) (.call ⟨.value g,⟨args⟩,ts⟩) d ρ H) ⟨K⟩=@kF _ (ρ g) ⟨fun h first cap=>@kC _ (qjW C.M.inls h)
  ⟨(@kB _ _ (qeL C.E C.M (ghO C.M.gh d ρ (fn C)) h (first++args.map ρ++cap) (shD C.M.base d) H) ⟨fun q=>K (q.1,H.setAll q.2.2,q.2.1,q.2.2.map (·.1))⟩,
   @kG _ (C.E.P.inFn h=true) _ ⟨@kB _ _ (il C h (first++args.map ρ++cap) H) ⟨fun r=>@kC _ (qjW C.M.inls h % 2) ⟨(K (r.1,r.2,[ALL],[ALL]),@kG _ (r.2=H) (Classical.propDecidable _) ⟨K (r.1,H,[ALL],[])⟩)⟩⟩⟩)⟩⟩:=by
 unfold opS qEd
 simp only
 cases hg:ρ g<;>try (simp only [kF,opE,hg,kB];rfl)
 rename_i h first cap
 cases h<;>try (simp only [kF,opE,hg,kB];rfl)
 rename_i h
 simp only [kF,kC]
 by_cases hz:qjW C.M.inls h=0
 ·simp only [hz,if_true,opE,hg,kB,Option.bind_assoc,Option.bind_some]
  rfl
 ·by_cases hgo:C.E.P.inFn h=true
  ·simp only [hz,if_false,kB,kG,gu,if_pos hgo,Option.bind_assoc,Option.bind_some]
   refine congrArg (fun F=>Option.bind _ F) (funext fun r=>?_)
   unfold qAH kC
   by_cases hm:qjW C.M.inls h % 2=0
   ·simp only [hm,if_true,Option.bind_some]
   ·simp only [hm,if_false]
    unfold gu kG
    by_cases hr:r.2=H
    ·simp only [hr,if_true,Option.bind_some]
    ·simp only [hr,if_false,Option.bind_none]
  ·simp only [hz,if_false,kB,kG,gu,if_neg hgo,Option.bind_none]
theorem qA7 (d x ty pos af K):@qaQ f H ⟨(C,ops,⟨d,.move x,ty,pos,af,none⟩,K)⟩=@kB _ _ (opE C.E C.M (fn C) (.move x) d (ev C.E.Γ f) H) ⟨fun q=>K ⟨qaF f d q.1,H.setAll q.2.2⟩ q.2.1 (q.2.2.map (·.1))⟩:=by
 rw [qaH,qav C (fun _=>rfl)]
theorem qA8 (d x ty pos af j K):@qaQ f H ⟨(C,ops,⟨d,.move x,ty,pos,af,some (j,true)⟩,K)⟩=@kB _ _ (gd ops j) ⟨fun e=>@kU _ (f e) ⟨(@kB _ _ (opE C.E C.M (fn C) (.move x) d (ev C.E.Γ f) H) ⟨fun q=>K ⟨qaF f d q.1,H.setAll q.2.2⟩ q.2.1 (q.2.2.map (·.1))⟩,K ⟨qaF f d (.sc undef),H⟩ [] [],K ⟨qaF f d (.sc undef),H⟩ [] [])⟩⟩:=by
 rw [qcp];first | rfl | (congr;funext e;rw [qav C (fun _=>rfl)])
theorem qA9 (d x ty pos af j K):@qaQ f H ⟨(C,ops,⟨d,.move x,ty,pos,af,some (j,false)⟩,K)⟩=@kB _ _ (gd ops j) ⟨fun e=>@kU _ (f e) ⟨(K ⟨qaF f d (.sc undef),H⟩ [] [],@kB _ _ (opE C.E C.M (fn C) (.move x) d (ev C.E.Γ f) H) ⟨fun q=>K ⟨qaF f d q.1,H.setAll q.2.2⟩ q.2.1 (q.2.2.map (·.1))⟩,K ⟨qaF f d (.sc undef),H⟩ [] [])⟩⟩:=by
 rw [qbj];first | rfl | (congr;funext e;rw [qav C (fun _=>rfl)])
theorem qst (d x ty pos af K):@qaQ f H ⟨(C,ops,⟨d,.assign x,ty,pos,af,none⟩,K)⟩=@kB _ _ (opE C.E C.M (fn C) (.assign x) d (ev C.E.Γ f) H) ⟨fun q=>K ⟨qaF f d q.1,H.setAll q.2.2⟩ q.2.1 (q.2.2.map (·.1))⟩:=by
 rw [qaH,qav C (fun _=>rfl)]
theorem qBa (d x y z ty pos af K):@qaQ f H ⟨(C,ops,⟨d,.pick x y z,ty,pos,af,none⟩,K)⟩=@kB _ _ (opE C.E C.M (fn C) (.pick x y z) d (ev C.E.Γ f) H) ⟨fun q=>K ⟨qaF f d q.1,H.setAll q.2.2⟩ q.2.1 (q.2.2.map (·.1))⟩:=by
 rw [qaH,qav C (fun _=>rfl)]
theorem qBb (d x y z ty pos af j K):@qaQ f H ⟨(C,ops,⟨d,.pick x y z,ty,pos,af,some (j,false)⟩,K)⟩=@kB _ _ (gd ops j) ⟨fun e=>@kU _ (f e) ⟨(K ⟨qaF f d (.sc undef),H⟩ [] [],@kB _ _ (opE C.E C.M (fn C) (.pick x y z) d (ev C.E.Γ f) H) ⟨fun q=>K ⟨qaF f d q.1,H.setAll q.2.2⟩ q.2.1 (q.2.2.map (·.1))⟩,K ⟨qaF f d (.sc undef),H⟩ [] [])⟩⟩:=by
 rw [qbj];first | rfl | (congr;funext e;rw [qav C (fun _=>rfl)])
theorem qwe (d t ty pos af K):@qaQ f H ⟨(C,ops,⟨d,.alloc t,ty,pos,af,none⟩,K)⟩=@kB _ _ (opE C.E C.M (fn C) (.alloc t) d (ev C.E.Γ f) H) ⟨fun q=>K ⟨qaF f d q.1,H.setAll q.2.2⟩ q.2.1 (q.2.2.map (·.1))⟩:=by
 rw [qaH,qav C (fun _=>rfl)]
theorem qEy (d t x ty pos af K):@qaQ f H ⟨(C,ops,⟨d,.box t x,ty,pos,af,none⟩,K)⟩=@kB _ _ (opE C.E C.M (fn C) (.box t x) d (ev C.E.Γ f) H) ⟨fun q=>K ⟨qaF f d q.1,H.setAll q.2.2⟩ q.2.1 (q.2.2.map (·.1))⟩:=by
 rw [qaH,qav C (fun _=>rfl)]
theorem qwf (d t l ty pos af K):@qaQ f H ⟨(C,ops,⟨d,.build t l,ty,pos,af,none⟩,K)⟩=@kB _ _ (opE C.E C.M (fn C) (.build t l) d (ev C.E.Γ f) H) ⟨fun q=>K ⟨qaF f d q.1,H.setAll q.2.2⟩ q.2.1 (q.2.2.map (·.1))⟩:=by
 rw [qaH,qav C (fun _=>rfl)]
theorem qwg (d t l ty pos af j K):@qaQ f H ⟨(C,ops,⟨d,.build t l,ty,pos,af,some (j,false)⟩,K)⟩=@kB _ _ (gd ops j) ⟨fun e=>@kU _ (f e) ⟨(K ⟨qaF f d (.sc undef),H⟩ [] [],@kB _ _ (opE C.E C.M (fn C) (.build t l) d (ev C.E.Γ f) H) ⟨fun q=>K ⟨qaF f d q.1,H.setAll q.2.2⟩ q.2.1 (q.2.2.map (·.1))⟩,K ⟨qaF f d (.sc undef),H⟩ [] [])⟩⟩:=by
 rw [qbj];first | rfl | (congr;funext e;rw [qav C (fun _=>rfl)])
theorem qjr (d t n l ty pos af K):@qaQ f H ⟨(C,ops,⟨d,.buildSlice t n l,ty,pos,af,none⟩,K)⟩=@kB _ _ (opE C.E C.M (fn C) (.buildSlice t n l) d (ev C.E.Γ f) H) ⟨fun q=>K ⟨qaF f d q.1,H.setAll q.2.2⟩ q.2.1 (q.2.2.map (·.1))⟩:=by
 rw [qaH,qav C (fun _=>rfl)]
theorem qjs (d t n l ty pos af j K):@qaQ f H ⟨(C,ops,⟨d,.buildSlice t n l,ty,pos,af,some (j,false)⟩,K)⟩=@kB _ _ (gd ops j) ⟨fun e=>@kU _ (f e) ⟨(K ⟨qaF f d (.sc undef),H⟩ [] [],@kB _ _ (opE C.E C.M (fn C) (.buildSlice t n l) d (ev C.E.Γ f) H) ⟨fun q=>K ⟨qaF f d q.1,H.setAll q.2.2⟩ q.2.1 (q.2.2.map (·.1))⟩,K ⟨qaF f d (.sc undef),H⟩ [] [])⟩⟩:=by
 rw [qbj];first | rfl | (congr;funext e;rw [qav C (fun _=>rfl)])
theorem qBc (d t x ty pos af K):@qaQ f H ⟨(C,ops,⟨d,.load t x,ty,pos,af,none⟩,K)⟩=@kB _ _ (opE C.E C.M (fn C) (.load t x) d (ev C.E.Γ f) H) ⟨fun q=>K ⟨qaF f d q.1,H.setAll q.2.2⟩ q.2.1 (q.2.2.map (·.1))⟩:=by
 rw [qaH,qav C (fun _=>rfl)]
theorem qBd (d t x ty pos af j K):@qaQ f H ⟨(C,ops,⟨d,.load t x,ty,pos,af,some (j,true)⟩,K)⟩=@kB _ _ (gd ops j) ⟨fun e=>@kU _ (f e) ⟨(@kB _ _ (opE C.E C.M (fn C) (.load t x) d (ev C.E.Γ f) H) ⟨fun q=>K ⟨qaF f d q.1,H.setAll q.2.2⟩ q.2.1 (q.2.2.map (·.1))⟩,K ⟨qaF f d (.sc undef),H⟩ [] [],K ⟨qaF f d (.sc undef),H⟩ [] [])⟩⟩:=by
 rw [qcp];first | rfl | (congr;funext e;rw [qav C (fun _=>rfl)])
theorem qBe (d t x ty pos af j K):@qaQ f H ⟨(C,ops,⟨d,.load t x,ty,pos,af,some (j,false)⟩,K)⟩=@kB _ _ (gd ops j) ⟨fun e=>@kU _ (f e) ⟨(K ⟨qaF f d (.sc undef),H⟩ [] [],@kB _ _ (opE C.E C.M (fn C) (.load t x) d (ev C.E.Γ f) H) ⟨fun q=>K ⟨qaF f d q.1,H.setAll q.2.2⟩ q.2.1 (q.2.2.map (·.1))⟩,K ⟨qaF f d (.sc undef),H⟩ [] [])⟩⟩:=by
 rw [qbj];first | rfl | (congr;funext e;rw [qav C (fun _=>rfl)])
theorem qwh (d t x y ty pos af K):@qaQ f H ⟨(C,ops,⟨d,.store t x y,ty,pos,af,none⟩,K)⟩=@kB _ _ (opE C.E C.M (fn C) (.store t x y) d (ev C.E.Γ f) H) ⟨fun q=>K ⟨qaF f d q.1,H.setAll q.2.2⟩ q.2.1 (q.2.2.map (·.1))⟩:=by
 rw [qaH,qav C (fun _=>rfl)]
theorem qmY (d x ty pos af K):@qaQ f H ⟨(C,ops,⟨d,.nilCheck x,ty,pos,af,none⟩,K)⟩=@kB _ _ (opE C.E C.M (fn C) (.nilCheck x) d (ev C.E.Γ f) H) ⟨fun q=>K ⟨qaF f d q.1,H.setAll q.2.2⟩ q.2.1 (q.2.2.map (·.1))⟩:=by
 rw [qaH,qav C (fun _=>rfl)]
theorem qmZ (d x ty pos af j K):@qaQ f H ⟨(C,ops,⟨d,.nilCheck x,ty,pos,af,some (j,false)⟩,K)⟩=@kB _ _ (gd ops j) ⟨fun e=>@kU _ (f e) ⟨(K ⟨qaF f d (.sc undef),H⟩ [] [],@kB _ _ (opE C.E C.M (fn C) (.nilCheck x) d (ev C.E.Γ f) H) ⟨fun q=>K ⟨qaF f d q.1,H.setAll q.2.2⟩ q.2.1 (q.2.2.map (·.1))⟩,K ⟨qaF f d (.sc undef),H⟩ [] [])⟩⟩:=by
 rw [qbj];first | rfl | (congr;funext e;rw [qav C (fun _=>rfl)])
theorem qwi (d o t x y u ty pos af K):@qaQ f H ⟨(C,ops,⟨d,.binOp o t x y u,ty,pos,af,none⟩,K)⟩=@kB _ _ (opE C.E C.M (fn C) (.binOp o t x y u) d (ev C.E.Γ f) H) ⟨fun q=>K ⟨qaF f d q.1,H.setAll q.2.2⟩ q.2.1 (q.2.2.map (·.1))⟩:=by
 rw [qaH,qav C (fun _=>rfl)]
theorem qwj (d o t x y u ty pos af j K):@qaQ f H ⟨(C,ops,⟨d,.binOp o t x y u,ty,pos,af,some (j,true)⟩,K)⟩=@kB _ _ (gd ops j) ⟨fun e=>@kU _ (f e) ⟨(@kB _ _ (opE C.E C.M (fn C) (.binOp o t x y u) d (ev C.E.Γ f) H) ⟨fun q=>K ⟨qaF f d q.1,H.setAll q.2.2⟩ q.2.1 (q.2.2.map (·.1))⟩,K ⟨qaF f d (.sc undef),H⟩ [] [],K ⟨qaF f d (.sc undef),H⟩ [] [])⟩⟩:=by
 rw [qcp];first | rfl | (congr;funext e;rw [qav C (fun _=>rfl)])
theorem qwk (d o t x y u ty pos af j K):@qaQ f H ⟨(C,ops,⟨d,.binOp o t x y u,ty,pos,af,some (j,false)⟩,K)⟩=@kB _ _ (gd ops j) ⟨fun e=>@kU _ (f e) ⟨(K ⟨qaF f d (.sc undef),H⟩ [] [],@kB _ _ (opE C.E C.M (fn C) (.binOp o t x y u) d (ev C.E.Γ f) H) ⟨fun q=>K ⟨qaF f d q.1,H.setAll q.2.2⟩ q.2.1 (q.2.2.map (·.1))⟩,K ⟨qaF f d (.sc undef),H⟩ [] [])⟩⟩:=by
 rw [qbj];first | rfl | (congr;funext e;rw [qav C (fun _=>rfl)])
theorem qBf (d o t x ty pos af K):@qaQ f H ⟨(C,ops,⟨d,.unOp o t x,ty,pos,af,none⟩,K)⟩=@kB _ _ (opE C.E C.M (fn C) (.unOp o t x) d (ev C.E.Γ f) H) ⟨fun q=>K ⟨qaF f d q.1,H.setAll q.2.2⟩ q.2.1 (q.2.2.map (·.1))⟩:=by
 rw [qaH,qav C (fun _=>rfl)]
theorem qBg (d o t x ty pos af j K):@qaQ f H ⟨(C,ops,⟨d,.unOp o t x,ty,pos,af,some (j,true)⟩,K)⟩=@kB _ _ (gd ops j) ⟨fun e=>@kU _ (f e) ⟨(@kB _ _ (opE C.E C.M (fn C) (.unOp o t x) d (ev C.E.Γ f) H) ⟨fun q=>K ⟨qaF f d q.1,H.setAll q.2.2⟩ q.2.1 (q.2.2.map (·.1))⟩,K ⟨qaF f d (.sc undef),H⟩ [] [],K ⟨qaF f d (.sc undef),H⟩ [] [])⟩⟩:=by
 rw [qcp];first | rfl | (congr;funext e;rw [qav C (fun _=>rfl)])
theorem qBh (d o t x ty pos af j K):@qaQ f H ⟨(C,ops,⟨d,.unOp o t x,ty,pos,af,some (j,false)⟩,K)⟩=@kB _ _ (gd ops j) ⟨fun e=>@kU _ (f e) ⟨(K ⟨qaF f d (.sc undef),H⟩ [] [],@kB _ _ (opE C.E C.M (fn C) (.unOp o t x) d (ev C.E.Γ f) H) ⟨fun q=>K ⟨qaF f d q.1,H.setAll q.2.2⟩ q.2.1 (q.2.2.map (·.1))⟩,K ⟨qaF f d (.sc undef),H⟩ [] [])⟩⟩:=by
 rw [qbj];first | rfl | (congr;funext e;rw [qav C (fun _=>rfl)])
theorem qEz (d t x ty pos af K):@qaQ f H ⟨(C,ops,⟨d,.sliceToArrayPointer t x,ty,pos,af,none⟩,K)⟩=@kB _ _ (opE C.E C.M (fn C) (.sliceToArrayPointer t x) d (ev C.E.Γ f) H) ⟨fun q=>K ⟨qaF f d q.1,H.setAll q.2.2⟩ q.2.1 (q.2.2.map (·.1))⟩:=by
 rw [qaH,qav C (fun _=>rfl)]
theorem qpD (d t u x ty pos af K):@qaQ f H ⟨(C,ops,⟨d,.convert t u x,ty,pos,af,none⟩,K)⟩=@kB _ _ (opE C.E C.M (fn C) (.convert t u x) d (ev C.E.Γ f) H) ⟨fun q=>K ⟨qaF f d q.1,H.setAll q.2.2⟩ q.2.1 (q.2.2.map (·.1))⟩:=by
 rw [qaH,qav C (fun _=>rfl)]
theorem qm0 (d g a b ty pos af K):@qaQ f H ⟨(C,ops,⟨d,.makeFunc g a b,ty,pos,af,none⟩,K)⟩=@kB _ _ (opE C.E C.M (fn C) (.makeFunc g a b) d (ev C.E.Γ f) H) ⟨fun q=>K ⟨qaF f d q.1,H.setAll q.2.2⟩ q.2.1 (q.2.2.map (·.1))⟩:=by
 rw [qaH,qav C (fun _=>rfl)]
theorem qk0 (d t x y ty pos af K):@qaQ f H ⟨(C,ops,⟨d,.makeSlice t x y,ty,pos,af,none⟩,K)⟩=@kB _ _ (opE C.E C.M (fn C) (.makeSlice t x y) d (ev C.E.Γ f) H) ⟨fun q=>K ⟨qaF f d q.1,H.setAll q.2.2⟩ q.2.1 (q.2.2.map (·.1))⟩:=by
 rw [qaH,qav C (fun _=>rfl)]
theorem qwl (d t x a b c ty pos af K):@qaQ f H ⟨(C,ops,⟨d,.slice t x a b c,ty,pos,af,none⟩,K)⟩=@kB _ _ (opE C.E C.M (fn C) (.slice t x a b c) d (ev C.E.Γ f) H) ⟨fun q=>K ⟨qaF f d q.1,H.setAll q.2.2⟩ q.2.1 (q.2.2.map (·.1))⟩:=by
 rw [qaH,qav C (fun _=>rfl)]
theorem qk1 (d t x n ty pos af K):@qaQ f H ⟨(C,ops,⟨d,.fieldAddr t x n,ty,pos,af,none⟩,K)⟩=@kB _ _ (opE C.E C.M (fn C) (.fieldAddr t x n) d (ev C.E.Γ f) H) ⟨fun q=>K ⟨qaF f d q.1,H.setAll q.2.2⟩ q.2.1 (q.2.2.map (·.1))⟩:=by
 rw [qaH,qav C (fun _=>rfl)]
theorem qk2 (d t x n ty pos af j K):@qaQ f H ⟨(C,ops,⟨d,.fieldAddr t x n,ty,pos,af,some (j,true)⟩,K)⟩=@kB _ _ (gd ops j) ⟨fun e=>@kU _ (f e) ⟨(@kB _ _ (opE C.E C.M (fn C) (.fieldAddr t x n) d (ev C.E.Γ f) H) ⟨fun q=>K ⟨qaF f d q.1,H.setAll q.2.2⟩ q.2.1 (q.2.2.map (·.1))⟩,K ⟨qaF f d (.sc undef),H⟩ [] [],K ⟨qaF f d (.sc undef),H⟩ [] [])⟩⟩:=by
 rw [qcp];first | rfl | (congr;funext e;rw [qav C (fun _=>rfl)])
theorem qk3 (d t x n ty pos af j K):@qaQ f H ⟨(C,ops,⟨d,.fieldAddr t x n,ty,pos,af,some (j,false)⟩,K)⟩=@kB _ _ (gd ops j) ⟨fun e=>@kU _ (f e) ⟨(K ⟨qaF f d (.sc undef),H⟩ [] [],@kB _ _ (opE C.E C.M (fn C) (.fieldAddr t x n) d (ev C.E.Γ f) H) ⟨fun q=>K ⟨qaF f d q.1,H.setAll q.2.2⟩ q.2.1 (q.2.2.map (·.1))⟩,K ⟨qaF f d (.sc undef),H⟩ [] [])⟩⟩:=by
 rw [qbj];first | rfl | (congr;funext e;rw [qav C (fun _=>rfl)])
theorem qwm (d t x n ty pos af K):@qaQ f H ⟨(C,ops,⟨d,.field t x n,ty,pos,af,none⟩,K)⟩=@kB _ _ (opE C.E C.M (fn C) (.field t x n) d (ev C.E.Γ f) H) ⟨fun q=>K ⟨qaF f d q.1,H.setAll q.2.2⟩ q.2.1 (q.2.2.map (·.1))⟩:=by
 rw [qaH,qav C (fun _=>rfl)]
theorem qk4 (d t x i ty pos af K):@qaQ f H ⟨(C,ops,⟨d,.indexAddr t x i,ty,pos,af,none⟩,K)⟩=@kB _ _ (opE C.E C.M (fn C) (.indexAddr t x i) d (ev C.E.Γ f) H) ⟨fun q=>K ⟨qaF f d q.1,H.setAll q.2.2⟩ q.2.1 (q.2.2.map (·.1))⟩:=by
 rw [qaH,qav C (fun _=>rfl)]
theorem qk5 (d t x i ty pos af j K):@qaQ f H ⟨(C,ops,⟨d,.indexAddr t x i,ty,pos,af,some (j,true)⟩,K)⟩=@kB _ _ (gd ops j) ⟨fun e=>@kU _ (f e) ⟨(@kB _ _ (opE C.E C.M (fn C) (.indexAddr t x i) d (ev C.E.Γ f) H) ⟨fun q=>K ⟨qaF f d q.1,H.setAll q.2.2⟩ q.2.1 (q.2.2.map (·.1))⟩,K ⟨qaF f d (.sc undef),H⟩ [] [],K ⟨qaF f d (.sc undef),H⟩ [] [])⟩⟩:=by
 rw [qcp];first | rfl | (congr;funext e;rw [qav C (fun _=>rfl)])
theorem qk6 (d t x i ty pos af j K):@qaQ f H ⟨(C,ops,⟨d,.indexAddr t x i,ty,pos,af,some (j,false)⟩,K)⟩=@kB _ _ (gd ops j) ⟨fun e=>@kU _ (f e) ⟨(K ⟨qaF f d (.sc undef),H⟩ [] [],@kB _ _ (opE C.E C.M (fn C) (.indexAddr t x i) d (ev C.E.Γ f) H) ⟨fun q=>K ⟨qaF f d q.1,H.setAll q.2.2⟩ q.2.1 (q.2.2.map (·.1))⟩,K ⟨qaF f d (.sc undef),H⟩ [] [])⟩⟩:=by
 rw [qbj];first | rfl | (congr;funext e;rw [qav C (fun _=>rfl)])
theorem qwn (d t x i ty pos af K):@qaQ f H ⟨(C,ops,⟨d,.index t x i,ty,pos,af,none⟩,K)⟩=@kB _ _ (opE C.E C.M (fn C) (.index t x i) d (ev C.E.Γ f) H) ⟨fun q=>K ⟨qaF f d q.1,H.setAll q.2.2⟩ q.2.1 (q.2.2.map (·.1))⟩:=by
 rw [qaH,qav C (fun _=>rfl)]
theorem qwo (d t x i ty pos af j K):@qaQ f H ⟨(C,ops,⟨d,.index t x i,ty,pos,af,some (j,false)⟩,K)⟩=@kB _ _ (gd ops j) ⟨fun e=>@kU _ (f e) ⟨(K ⟨qaF f d (.sc undef),H⟩ [] [],@kB _ _ (opE C.E C.M (fn C) (.index t x i) d (ev C.E.Γ f) H) ⟨fun q=>K ⟨qaF f d q.1,H.setAll q.2.2⟩ q.2.1 (q.2.2.map (·.1))⟩,K ⟨qaF f d (.sc undef),H⟩ [] [])⟩⟩:=by
 rw [qbj];first | rfl | (congr;funext e;rw [qav C (fun _=>rfl)])
theorem qpE (d x n ty pos af K):@qaQ f H ⟨(C,ops,⟨d,.extract x n,ty,pos,af,none⟩,K)⟩=@kB _ _ (opE C.E C.M (fn C) (.extract x n) d (ev C.E.Γ f) H) ⟨fun q=>K ⟨qaF f d q.1,H.setAll q.2.2⟩ q.2.1 (q.2.2.map (·.1))⟩:=by
 rw [qaH,qav C (fun _=>rfl)]
theorem qpF (d b a t ty pos af K):@qaQ f H ⟨(C,ops,⟨d,.call ⟨.builtin b,a,t⟩,ty,pos,af,none⟩,K)⟩=@kB _ _ (opE C.E C.M (fn C) (.call ⟨.builtin b,a,t⟩) d (ev C.E.Γ f) H) ⟨fun q=>K ⟨qaF f d q.1,H.setAll q.2.2⟩ q.2.1 (q.2.2.map (·.1))⟩:=by
 rw [qaH,qav C (fun _=>rfl)]
theorem qpG (d b a t ty pos af j K):@qaQ f H ⟨(C,ops,⟨d,.call ⟨.builtin b,a,t⟩,ty,pos,af,some (j,true)⟩,K)⟩=@kB _ _ (gd ops j) ⟨fun e=>@kU _ (f e) ⟨(@kB _ _ (opE C.E C.M (fn C) (.call ⟨.builtin b,a,t⟩) d (ev C.E.Γ f) H) ⟨fun q=>K ⟨qaF f d q.1,H.setAll q.2.2⟩ q.2.1 (q.2.2.map (·.1))⟩,K ⟨qaF f d (.sc undef),H⟩ [] [],K ⟨qaF f d (.sc undef),H⟩ [] [])⟩⟩:=by
 rw [qcp];first | rfl | (congr;funext e;rw [qav C (fun _=>rfl)])
theorem qpH (d b a t ty pos af j K):@qaQ f H ⟨(C,ops,⟨d,.call ⟨.builtin b,a,t⟩,ty,pos,af,some (j,false)⟩,K)⟩=@kB _ _ (gd ops j) ⟨fun e=>@kU _ (f e) ⟨(K ⟨qaF f d (.sc undef),H⟩ [] [],@kB _ _ (opE C.E C.M (fn C) (.call ⟨.builtin b,a,t⟩) d (ev C.E.Γ f) H) ⟨fun q=>K ⟨qaF f d q.1,H.setAll q.2.2⟩ q.2.1 (q.2.2.map (·.1))⟩,K ⟨qaF f d (.sc undef),H⟩ [] [])⟩⟩:=by
 rw [qbj];first | rfl | (congr;funext e;rw [qav C (fun _=>rfl)])
theorem qBi (d g args ts ty pos af K):@qaQ f H ⟨(C,ops,⟨d,.call ⟨.value g,⟨args⟩,ts⟩,ty,pos,af,none⟩,K)⟩=@kF _ (ev C.E.Γ f g) ⟨fun h first cap=>@kC _ (qjW C.M.inls h) ⟨(@kB _ _ (qeL C.E C.M (ghO C.M.gh d (ev C.E.Γ f) (fn C)) h (first++args.map (ev C.E.Γ f)++cap) (shD C.M.base d) H) ⟨fun q=>K ⟨qaF f d q.1,H.setAll q.2.2⟩ q.2.1 (q.2.2.map (·.1))⟩,@kG _ (C.E.P.inFn h=true) _ ⟨@kB _ _ (il C h (first++args.map (ev C.E.Γ f)++cap) H) ⟨fun r=>@kC _ (qjW C.M.inls h % 2) ⟨(K ⟨qaF f d r.1,r.2⟩ [ALL] [ALL],@kG _ (r.2=H) (Classical.propDecidable _) ⟨K ⟨qaF f d r.1,H⟩ [ALL] []⟩)⟩⟩⟩)⟩⟩:=by
 rw [qaH,qjq]
theorem qBj (d g args ts ty pos af j K):@qaQ f H ⟨(C,ops,⟨d,.call ⟨.value g,⟨args⟩,ts⟩,ty,pos,af,some (j,true)⟩,K)⟩=@kB _ _ (gd ops j) ⟨fun e=>@kU _ (f e) ⟨(@kF _ (ev C.E.Γ f g) ⟨fun h first cap=>@kC _ (qjW C.M.inls h) ⟨(@kB _ _ (qeL C.E C.M (ghO C.M.gh d (ev C.E.Γ f) (fn C)) h (first++args.map (ev C.E.Γ f)++cap) (shD C.M.base d) H) ⟨fun q=>K ⟨qaF f d q.1,H.setAll q.2.2⟩ q.2.1 (q.2.2.map (·.1))⟩,@kG _ (C.E.P.inFn h=true) _ ⟨@kB _ _ (il C h (first++args.map (ev C.E.Γ f)++cap) H) ⟨fun r=>@kC _ (qjW C.M.inls h % 2) ⟨(K ⟨qaF f d r.1,r.2⟩ [ALL] [ALL],@kG _ (r.2=H) (Classical.propDecidable _) ⟨K ⟨qaF f d r.1,H⟩ [ALL] []⟩)⟩⟩⟩)⟩⟩,K ⟨qaF f d (.sc undef),H⟩ [] [],K ⟨qaF f d (.sc undef),H⟩ [] [])⟩⟩:=by
 rw [qcp];congr;funext e;rw [qjq]
theorem qBk (d g args ts ty pos af j K):@qaQ f H ⟨(C,ops,⟨d,.call ⟨.value g,⟨args⟩,ts⟩,ty,pos,af,some (j,false)⟩,K)⟩=@kB _ _ (gd ops j) ⟨fun e=>@kU _ (f e) ⟨(K ⟨qaF f d (.sc undef),H⟩ [] [],@kF _ (ev C.E.Γ f g) ⟨fun h first cap=>@kC _ (qjW C.M.inls h) ⟨(@kB _ _ (qeL C.E C.M (ghO C.M.gh d (ev C.E.Γ f) (fn C)) h (first++args.map (ev C.E.Γ f)++cap) (shD C.M.base d) H) ⟨fun q=>K ⟨qaF f d q.1,H.setAll q.2.2⟩ q.2.1 (q.2.2.map (·.1))⟩,@kG _ (C.E.P.inFn h=true) _ ⟨@kB _ _ (il C h (first++args.map (ev C.E.Γ f)++cap) H) ⟨fun r=>@kC _ (qjW C.M.inls h % 2) ⟨(K ⟨qaF f d r.1,r.2⟩ [ALL] [ALL],@kG _ (r.2=H) (Classical.propDecidable _) ⟨K ⟨qaF f d r.1,H⟩ [ALL] []⟩)⟩⟩⟩)⟩⟩,K ⟨qaF f d (.sc undef),H⟩ [] [])⟩⟩:=by
 rw [qbj];congr;funext e;rw [qjq]
end
theorem qal {α β:Type} (p:Prop) [Decidable p] (x:Option α) (K:α→Option β):(if p then x else none).bind K=if p then x.bind K else none:=by split<;>rfl
section
variable {β:Type} (E:Env) (M:Mds) (O:Orc) (d:Option Tmp) (ρ:Operand→AVal) (H:qac) (K:Out→Option β)
theorem qEA (x):@kB _ _ (opE E M O (.move x) d ρ H) ⟨K⟩=K (ρ x,[],[]):=rfl
theorem qwp (x):@kB _ _ (opE E M O (.assign x) d ρ H) ⟨K⟩=@kB _ _ (qAG M d H (ρ x)) ⟨K⟩:=rfl
theorem qEB (c a b):@kB _ _ (opE E M O (.pick c a b) d ρ H) ⟨K⟩=@kT _ (ρ c) ⟨fun t=>K (if t=true then ρ a else ρ b,[],[])⟩:=by
 simp only [opE,kB,kT];cases ρ c<;>rfl
theorem qBl (t):@kB _ _ (opE E M O (.alloc t) d ρ H) ⟨K⟩=@kB _ _ (E.P.zeroL t) ⟨fun z=>K (.ptr (qan (shD M.base d)) ((H (qan (shD M.base d))).gen+1) 0 0,[qan (shD M.base d)],[(qan (shD M.base d),qah H (qan (shD M.base d)) z.length [z])])⟩:=by
 simp only [opE,kB,kG,gu,qal,Option.bind_assoc,Option.bind_some]
theorem qJt (t x):@kB _ _ (opE E M O (.box t x) d ρ H) ⟨K⟩=@kG _ ((ρ x).boxable=true) _ ⟨K (.ptr (qan (shD M.base d)) ((H (qan (shD M.base d))).gen+1) 0 0,[qan (shD M.base d)],[(qan (shD M.base d),qah H (qan (shD M.base d)) (ρ x).cellsV.length [(ρ x).cellsV])])⟩:=by
 simp only [opE,kB,kG,gu,qal,Option.bind_assoc,Option.bind_some]
theorem qBm (t l):@kB _ _ (opE E M O (.build t ⟨l⟩) d ρ H) ⟨K⟩=@kG _ (E.P.isComp t=true) _ ⟨@kB _ _ (E.P.zeroL t) ⟨fun z=>@kB _ _ (qgo (E.P.places t) z (l.map fun p=>(p.1,ρ p.2))) ⟨fun cs=>K (.agg (qAw M.cur d cs),[],[])⟩⟩⟩:=by
 simp only [opE,kB,kG,gu,qal,Option.bind_assoc,Option.bind_some]
theorem qsu (l cs):qAw l none cs=cs:=Eq.trans rfl rfl
theorem qsv (l cs) (e:Tmp):qAw l (some e) cs=quS l e cs:=Eq.trans rfl rfl
theorem qwq (e cs):quS [] e cs=cs:=Eq.trans rfl rfl
theorem qsw (p l e cs):quS (p::l) e cs=if p.1=e then quS l e (qmu (p.2 / 100) (p.2 % 100) cs) else quS l e cs:=Eq.trans rfl rfl
theorem qpI (st v vs):qmu 0 st (v::vs)=qD6 st v::vs:=Eq.trans rfl rfl
theorem qpJ (i st v vs):qmu (i+1) st (v::vs)=v::qmu i st vs:=Eq.trans rfl rfl
theorem qwr (st):qD6 st (.sc (.slice none 0 0))= .slice st []:=Eq.trans rfl rfl
theorem qws (o size len rows):@kB _ _ (bsE 0 H o size len rows) ⟨K⟩=K (.osl o ((H o).gen+1) 0 len,[o],[(o,qah H o size rows)]):=rfl
theorem qwt (k o size len rows):@kB _ _ (bsE (k+1) H o size len rows) ⟨K⟩=@kG _ (0<len) _ ⟨@kG _ (rows.all qbL=true) _ ⟨K (.slice size rows,[o],[(o,{ qah H o size rows with mode:= .froz })])⟩⟩:=by
 simp only [bsE,kB,kG,gu,qal,Option.bind_some]
theorem qk7 (t len l):@kB _ _ (opE E M O (.buildSlice t len ⟨l⟩) d ρ H) ⟨K⟩=@kB _ _ (E.P.elemO t) ⟨fun size=>@kG _ (0<size) _ ⟨@kB _ _ (E.P.elemZero t) ⟨fun z=>@kG _ (z.length=size) _ ⟨@kG _ (len * size≤16777216) _ ⟨@kB _ _ (qep size (List.replicate len z) (l.map fun p=>(p.1,ρ p.2))) ⟨fun rows=>
  @kB _ _ (bsE (qzo M.cur d) H (qan (shD M.base d)) size len rows) ⟨K⟩⟩⟩⟩⟩⟩⟩:=by
 simp only [opE,kB,kG,gu,qal,Option.bind_assoc,Option.bind_some]
theorem qm1 (p cs) (K:List AVal→Option β):@kB _ _ (qgo p cs []) ⟨K⟩=K cs:=rfl
theorem qk8 (p cs i v rest) (K:List AVal→Option β):@kB _ _ (qgo p cs ((i,v)::rest)) ⟨K⟩=@kB _ _ (p i) ⟨fun q=>@kG _ (v.boxable=true∧v.cellsV.length=q.2∧q.1+q.2≤cs.length) _ ⟨@kB _ _ (qgo p (qbh cs q.1 v.cellsV) rest) ⟨K⟩⟩⟩:=by
 simp only [qgo,kB,kG,gu,qal,Option.bind_assoc,Option.bind_some]
theorem qm2 (st rs) (K:List (List AVal)→Option β):@kB _ _ (qep st rs []) ⟨K⟩=K rs:=rfl
theorem qk9 (st rs i v rest) (K:List (List AVal)→Option β):@kB _ _ (qep st rs ((i,v)::rest)) ⟨K⟩=@kG _ (v.boxable=true∧v.cellsV.length=st∧i<rs.length) _ ⟨@kB _ _ (qep st (rs.set i v.cellsV) rest) ⟨K⟩⟩:=by
 simp only [qep,kB,kG,gu,qal,Option.bind_assoc,Option.bind_some]
theorem qEC (t x):@kB _ _ (opE E M O (.load t x) d ρ H) ⟨K⟩=@kB _ _ (E.P.szO t) ⟨fun n=>@kB _ _ (E.P.rowO t) ⟨fun g=>@kG _ (g=false→n=1) _ ⟨@kB _ _ (qgp H g n (ρ x)) ⟨K⟩⟩⟩⟩:=by
 simp only [opE,kB,kG,gu,qal,Option.bind_assoc,Option.bind_some]
theorem qBn (t x y):@kB _ _ (opE E M O (.store t x y) d ρ H) ⟨K⟩=@kB _ _ (E.P.szO t) ⟨fun n=>@kB _ _ (qiq H n (ρ x) (ρ y)) ⟨K⟩⟩:=by
 simp only [opE,kB,kG,gu,qal,Option.bind_assoc,Option.bind_some]
theorem qpK (x):@kB _ _ (opE E M O (.nilCheck x) d ρ H) ⟨K⟩=@kG _ (qoZ (ρ x)=true) _ ⟨K (ρ x,[],[])⟩:=by
 simp only [opE,kB,kG,gu,qal,Option.bind_assoc,Option.bind_some]
theorem qBo (op t x y u):@kB _ _ (opE E M O (.binOp op t x y u) d ρ H) ⟨K⟩=@kB _ _ (qbF E.P op t (ρ x) (ρ y)) ⟨fun v=>K (v,[],[])⟩:=by
 simp only [opE,kB,kG,gu,qal,Option.bind_assoc,Option.bind_some]
theorem qED (op t x):@kB _ _ (opE E M O (.unOp op t x) d ρ H) ⟨K⟩=@kB _ _ (unV op (ρ x)) ⟨fun v=>K (v,[],[])⟩:=by
 simp only [opE,kB,kG,gu,qal,Option.bind_assoc,Option.bind_some]
theorem qJu (t x):@kB _ _ (opE E M O (.sliceToArrayPointer t x) d ρ H) ⟨K⟩=@kB _ _ (qAs E.P t (ρ x)) ⟨fun v=>K (v,[],[])⟩:=by
 simp only [opE,kB,kG,gu,qal,Option.bind_assoc,Option.bind_some]
theorem qsx (a b x):@kB _ _ (opE E M O (.convert a b x) d ρ H) ⟨K⟩=@kB _ _ (qhZ E.P H a b (shD M.base d) (ρ x)) ⟨K⟩:=rfl
theorem qpL (g fs cs):@kB _ _ (opE E M O (.makeFunc g ⟨fs⟩ ⟨cs⟩) d ρ H) ⟨K⟩=K (.fn g (fs.map ρ) (cs.map ρ),[],[]):=rfl
theorem qm3 (t l c):@kB _ _ (opE E M O (.makeSlice t l c) d ρ H) ⟨K⟩=@kI _ (ρ l) ⟨fun _ nl=>@kI _ (ρ c) ⟨fun _ nc=>@kG _ (0≤nl) _ ⟨@kG _ (nl≤nc) _ ⟨@kB _ _ (E.P.elemO t) ⟨fun size=>@kG _ (0<size) _ ⟨@kB _ _ (E.P.elemBytes t) ⟨fun bytes=>@kB _ _ (E.P.elemZero t) ⟨fun z=>@kG _ (z.length=size) _ ⟨
  @kG _ ((bytes:Int) * nc≤281474976710656) _ ⟨@kG _ (nc≤9223372036854775807) _ ⟨K (.osl (qan (shD M.base d)) ((H (qan (shD M.base d))).gen+1) 0 nl.toNat,[qan (shD M.base d)],[(qan (shD M.base d),qbr H (qan (shD M.base d)) size (List.replicate nl.toNat z) (decide (nl=nc)))])⟩⟩⟩⟩⟩⟩⟩⟩⟩⟩⟩:=by
 simp only [opE,kI]
 cases ρ l<;>try rfl
 cases ρ c<;>try rfl
 simp only [kB,kG,gu,qal,Option.bind_assoc,Option.bind_some]
theorem qwu (t x lo h m):@kB _ _ (opE E M O (.slice t x lo (some h) (some m)) d ρ H) ⟨K⟩=@kB _ _ (qhc (qzo M.cur d) E.P H t (ρ x) (lo.map ρ) (ρ h) (ρ m)) ⟨K⟩:=rfl
theorem qla (P t p lo hi mx):qhc 0 P H t p lo hi mx=qfJ P H t p lo hi mx:=Eq.trans rfl rfl
theorem qlb (k P t p lo hi mx):qhc (k+1) P H t p lo hi mx=qfK P H t p lo hi mx:=Eq.trans rfl rfl
theorem qsy (P t u e s x):qEb 0 P H t u e s x=qAF P H t u e s x:=Eq.trans rfl rfl
theorem qsz (k P t u e s x):qEb (k+1) P H t u e s x=qit P H t u s x:=Eq.trans rfl rfl
theorem qsA (l):qzo l none=0:=Eq.trans rfl rfl
theorem qsB (l) (e:Tmp):qzo l (some e)=nlk l e:=Eq.trans rfl rfl
theorem qBp (t x lo hi):@kB _ _ (opE E M O (.slice t x lo hi none) d ρ H) ⟨K⟩=@kB _ _ (qez E.P H t (ρ x) (lo.map ρ) (hi.map ρ)) ⟨K⟩:=rfl
theorem qm4 (s x f):@kB _ _ (opE E M O (.fieldAddr s x f) d ρ H) ⟨K⟩=@kB _ _ (E.P.fldO s f) ⟨fun a=>@kB _ _ (qir a.1 (ρ x)) ⟨K⟩⟩:=by
 simp only [opE,kB,kG,gu,qal,Option.bind_assoc,Option.bind_some]
theorem qBq (s x f):@kB _ _ (opE E M O (.field s x f) d ρ H) ⟨K⟩=@kB _ _ (E.P.fldO s f) ⟨fun a=>@kB _ _ (qps a.2.2 a.1 a.2.1 (ρ x)) ⟨K⟩⟩:=by
 simp only [opE,kB,kG,gu,qal,Option.bind_assoc,Option.bind_some]
theorem qm5 (t x i):@kB _ _ (opE E M O (.indexAddr t x i) d ρ H) ⟨K⟩=@kI _ (ρ i) ⟨fun _ n=>@kG _ (0≤n) _ ⟨@kB _ _ (qa9 E.P H t (ρ x) n) ⟨K⟩⟩⟩:=by
 simp only [opE,kI];cases ρ i<;>first | rfl | exact qAP _ _ _
theorem qBr (t x i):@kB _ _ (opE E M O (.index t x i) d ρ H) ⟨K⟩=@kI _ (ρ i) ⟨fun _ n=>@kG _ (0≤n) _ ⟨@kB _ _ (qgd E.P t (ρ x) n) ⟨K⟩⟩⟩:=by
 simp only [opE,kI];cases ρ i<;>first | rfl | exact qAP _ _ _
theorem qsC (x i):@kB _ _ (opE E M O (.extract x i) d ρ H) ⟨K⟩=@kB _ _ (qDR i (ρ x)) ⟨K⟩:=rfl
theorem qJv (x t ts):@kB _ _ (opE E M O (.call ⟨.builtin .len,⟨[x]⟩,⟨t::ts⟩⟩) d ρ H) ⟨K⟩=@kB _ _ (quU E.P H t (ρ x)) ⟨K⟩:=rfl
theorem qJw (x y t):@kB _ _ (opE E M O (.call ⟨.builtin .max,⟨[x,y]⟩,t⟩) d ρ H) ⟨K⟩=@kI _ (ρ x) ⟨fun k a=>@kI _ (ρ y) ⟨fun _ b=>K (.int k (if b>a then b else a),[],[])⟩⟩:=by
 simp only [opE,qfh,kI];cases ρ x<;>try rfl
 cases ρ y<;>rfl
theorem qJx (x y t):@kB _ _ (opE E M O (.call ⟨.builtin .min,⟨[x,y]⟩,t⟩) d ρ H) ⟨K⟩=@kI _ (ρ x) ⟨fun k a=>@kI _ (ρ y) ⟨fun _ b=>K (.int k (if b<a then b else a),[],[])⟩⟩:=by
 simp only [opE,qfh,kI];cases ρ x<;>try rfl
 cases ρ y<;>rfl
theorem qwv (x y t u):@kB _ _ (opE E M O (.call ⟨.builtin .append,⟨[x,y]⟩,⟨[t,u]⟩⟩) d ρ H) ⟨K⟩=@kB _ _ (qEb (qzo M.cur d) E.P H t u (shD M.base d) (ρ x) (ρ y)) ⟨K⟩:=rfl
theorem qBs (x t ts):@kB _ _ (opE E M O (.call ⟨.builtin .clear,⟨[x]⟩,⟨t::ts⟩⟩) d ρ H) ⟨K⟩=@kB _ _ (qiu E.P H t (ρ x)) ⟨K⟩:=rfl
theorem qJy (x t ts):@kB _ _ (opE E M O (.call ⟨.builtin .cap,⟨[x]⟩,⟨t::ts⟩⟩) d ρ H) ⟨K⟩=@kB _ _ (qDS E.P H t (ρ x)) ⟨K⟩:=rfl
theorem qEE (x y t u):@kB _ _ (opE E M O (.call ⟨.builtin .copy,⟨[x,y]⟩,⟨[t,u]⟩⟩) d ρ H) ⟨K⟩=@kB _ _ (qpt E.P H t u (ρ x) (ρ y)) ⟨K⟩:=rfl
end
section
variable {β:Type} (P:Program) (H:qac) (K:Out→Option β)
theorem qsD (g n o gn i j):@kB _ _ (qgp H g n (.ptr o gn i j)) ⟨K⟩=@kG _ ((H o).gen=gn) _ ⟨@kG _ ((H o).mode≠ .dead) _ ⟨@kB _ _ ((H o).rows[i]?) ⟨fun r=>@kG _ (j+n≤r.length) _ ⟨K (mkV g ((r.drop j).take n),[o],[])⟩⟩⟩⟩:=by
 simp only [qgp,kB,kG,gu,qal,Option.bind_assoc,Option.bind_some]
theorem qpM (g n cs):@kB _ _ (qgp H g n (.iptr cs)) ⟨K⟩=@kG _ (n≤cs.length) _ ⟨K (mkV g (cs.take n),[],[])⟩:=by
 simp only [qgp,kB,kG,gu,qal,Option.bind_assoc,Option.bind_some]
theorem qpN (n v o gn i j):@kB _ _ (qiq H n (.ptr o gn i j) v) ⟨K⟩=@kG _ (v.boxable=true) _ ⟨@kG _ (v.cellsV.length=n) _ ⟨@kG _ (v.cellsV.all AVal.one=true) _ ⟨@kG _ ((H o).gen=gn) _ ⟨@kG _ ((H o).mode= .live) _ ⟨@kB _ _ ((H o).rows[i]?) ⟨fun r=>@kG _ (j+v.cellsV.length≤r.length) _ ⟨
  K (.junk,[o],[(o,{ H o with rows:=(H o).rows.set i (qbh r j v.cellsV) })])⟩⟩⟩⟩⟩⟩⟩:=by
 simp only [qiq,kB,kG,gu,qal,Option.bind_assoc,Option.bind_some]
theorem qpO (off o g i j):@kB _ _ (qir off (.ptr o g i j)) ⟨K⟩=K (.ptr o g i (j+off),[],[]):=rfl
theorem qm6 (off cs):@kB _ _ (qir off (.iptr cs)) ⟨K⟩=K (.iptr (cs.drop off),[],[]):=rfl
theorem qsE (g off n cs):@kB _ _ (qps g off n (.agg cs)) ⟨K⟩=@kG _ (off+n≤cs.length) _ ⟨@kG _ (g=false→n=1) _ ⟨K (mkV g ((cs.drop off).take n),[],[])⟩⟩:=by
 simp only [qps,kB,kG,gu,qal,Option.bind_assoc,Option.bind_some]
theorem qgt (t st es n):@kB _ _ (qa9 P H t (.slice st es) n) ⟨K⟩=@kG _ (P.elemO t=some st) _ ⟨@kB _ _ (es[n.toNat]?) ⟨fun r=>K (.iptr r,[],[])⟩⟩:=by
 simp only [qa9,kB,kG,gu,qal,Option.bind_assoc,Option.bind_some]
theorem qh2 (t o g i m n):@kB _ _ (qa9 P H t (.osl o g i m) n) ⟨K⟩=@kG _ ((H o).gen=g) _ ⟨@kG _ ((H o).mode≠ .dead) _ ⟨@kG _ (P.elemO t=some (H o).st) _ ⟨@kG _ (n.toNat<m) _ ⟨K (.ptr o g (i+n.toNat) 0,[o],[])⟩⟩⟩⟩:=by
 simp only [qa9,kB,kG,gu,qal,Option.bind_assoc,Option.bind_some]
theorem qh3 (t o g i j n):@kB _ _ (qa9 P H t (.ptr o g i j) n) ⟨K⟩=@kB _ _ (P.arrO t) ⟨fun a=>@kG _ (n.toNat<a.1) _ ⟨K (.ptr o g i (j+n.toNat * a.2.1),[],[])⟩⟩:=by
 simp only [qa9,kB,kG,gu,qal,Option.bind_assoc,Option.bind_some]
theorem qho (t cs n):@kB _ _ (qa9 P H t (.iptr cs) n) ⟨K⟩=@kB _ _ (P.arrO t) ⟨fun a=>@kG _ (n.toNat<a.1) _ ⟨K (.iptr (cs.drop (n.toNat * a.2.1)),[],[])⟩⟩:=by
 simp only [qa9,kB,kG,gu,qal,Option.bind_assoc,Option.bind_some]
theorem qpP (t l n):@kB _ _ (qgd P t (.str l) n) ⟨K⟩=@kG _ (P.isStr t=true) _ ⟨@kB _ _ (l[n.toNat]?) ⟨fun b=>K (.int .u8 b.toNat,[],[])⟩⟩:=by
 simp only [qgd,kB,kG,gu,qal,Option.bind_assoc,Option.bind_some]
theorem qpQ (t cs n):@kB _ _ (qgd P t (.agg cs) n) ⟨K⟩=@kB _ _ (P.arrO t) ⟨fun a=>@kG _ (n.toNat<a.1) _ ⟨@kG _ (n.toNat * a.2.1+a.2.1≤cs.length) _ ⟨@kG _ (a.2.2=false→a.2.1=1) _ ⟨K (mkV a.2.2 ((cs.drop (n.toNat * a.2.1)).take a.2.1),[],[])⟩⟩⟩⟩:=by
 simp only [qgd,kB,kG,gu,qal,Option.bind_assoc,Option.bind_some]
theorem qww (i vs):@kB _ _ (qDR i (.tup vs)) ⟨K⟩=@kB _ _ (vs[i]?) ⟨fun v=>K (v,[],[])⟩:=by
 simp only [qDR,kB,kG,gu,qal,Option.bind_assoc,Option.bind_some]
theorem qjt (t st es lo hi mx):@kB _ _ (qfJ P H t (.slice st es) lo hi mx) ⟨K⟩=@kG _ (P.elemO t=some st) _ ⟨@kB _ _ (bnd (some mx) 0 es.length) ⟨fun m=>@kB _ _ (bnd (some hi) 0 m) ⟨fun h=>@kB _ _ (bnd lo 0 h) ⟨fun b=>K (.slice st ((es.drop b).take (h - b)),[],[])⟩⟩⟩⟩:=by
 simp only [qfJ,kB,kG,gu,qal,Option.bind_assoc,Option.bind_some]
theorem qpR (t l lo hi):@kB _ _ (qez P H t (.str l) lo hi) ⟨K⟩=@kG _ (P.isStr t=true) _ ⟨@kB _ _ (bnd hi l.length l.length) ⟨fun h=>@kB _ _ (bnd lo 0 h) ⟨fun b=>K (.str ((l.drop b).take (h - b)),[],[])⟩⟩⟩:=by
 simp only [qez,kB,kG,gu,qal,Option.bind_assoc,Option.bind_some]
theorem qlc (t st es lo hi):@kB _ _ (qez P H t (.slice st es) lo hi) ⟨K⟩=@kG _ (P.elemO t=some st) _ ⟨@kB _ _ (bnd hi es.length es.length) ⟨fun h=>@kB _ _ (bnd lo 0 h) ⟨fun b=>K (.slice st ((es.drop b).take (h - b)),[],[])⟩⟩⟩:=by
 simp only [qez,kB,kG,gu,qal,Option.bind_assoc,Option.bind_some]
theorem qpS (t o g i m lo hi):@kB _ _ (qez P H t (.osl o g i m) lo hi) ⟨K⟩=@kG _ ((H o).gen=g) _ ⟨@kG _ ((H o).mode≠ .dead) _ ⟨@kG _ (P.elemO t=some (H o).st) _ ⟨@kB _ _ (bnd hi m ((H o).rows.length - i)) ⟨fun h=>@kB _ _ (bnd lo 0 h) ⟨fun b=>K (.osl o g (i+b) (h - b),[o],[])⟩⟩⟩⟩⟩:=by
 simp only [qez,kB,kG,gu,qal,Option.bind_assoc,Option.bind_some]
theorem qBt (k n):(AVal.int k n).num=true:=rfl
theorem qwx (b):(AVal.bool b).num=true:=rfl
theorem qBu (l):(AVal.str l).num=true:=rfl
theorem qpT (t st es) (K:AVal→Option β):@kB _ _ (qAs P t (.slice st es)) ⟨K⟩=@kB _ _ (P.arrO t) ⟨fun a=>@kG _ (a.2.1=st∧0<a.1∧a.1≤es.length) _ ⟨K (.iptr es.flatten)⟩⟩:=by
 simp only [qAs,kB,kG,gu,qal,Option.bind_assoc,Option.bind_some]
theorem qsF (s d dst k n):@kB _ _ (qhZ P H s d dst (.int k n)) ⟨K⟩=@kG _ ((P.underlying s).isSome=true) _ ⟨@kB _ _ (qrA P d) ⟨fun k=>K (.int k (k.wrap n),[],[])⟩⟩:=by
 simp only [qhZ,kB,kG,gu,qal,Option.bind_assoc,Option.bind_some]
theorem qsG (s d dst l):@kB _ _ (qhZ P H s d dst (.str l)) ⟨K⟩=if P.isStr d=true then @kG _ ((P.underlying s).isSome=true) _ ⟨K (.str l,[],[])⟩ else @kG _ (P.isStr s=true) _ ⟨@kG _ (P.isBytes d=true) _ ⟨@kG _ (l.length≤9223372036854775807) _ ⟨K (.osl (qan dst) ((H (qan dst)).gen+1) 0 l.length,[qan dst],[(qan dst,qah H (qan dst) 1 (l.map qab))])⟩⟩⟩:=by
 simp only [qhZ];split<;>simp only [kB,kG,gu,qal,Option.bind_assoc,Option.bind_some]
theorem qm7 (s d dst st es):@kB _ _ (qhZ P H s d dst (.slice st es)) ⟨K⟩=@kG _ (P.isBytes s=true) _ ⟨@kG _ (P.isStr d=true) _ ⟨@kB _ _ (qhR P H s 1 (.slice st es)) ⟨fun p=>@kB _ _ (qdO p.1) ⟨fun l=>K (.str l,p.2,[])⟩⟩⟩⟩:=by
 simp only [qhZ,kB,kG,gu,qal,Option.bind_assoc,Option.bind_some]
theorem qwy (t l):@kB _ _ (quU P H t (.str l)) ⟨K⟩=@kG _ (P.isStr t=true) _ ⟨K (.int .i64 (l.length:Int),[],[])⟩:=by simp only [quU,kB,kG,gu,qal,Option.bind_assoc,Option.bind_some]
theorem qpU (t st es):@kB _ _ (quU P H t (.slice st es)) ⟨K⟩=@kG _ ((P.elemO t).isSome=true) _ ⟨K (.int .i64 (es.length:Int),[],[])⟩:=by simp only [quU,kB,kG,gu,qal,Option.bind_assoc,Option.bind_some]
theorem qwz (t o g i n):@kB _ _ (quU P H t (.osl o g i n)) ⟨K⟩=@kG _ ((P.elemO t).isSome=true) _ ⟨@kG _ ((H o).gen=g) _ ⟨@kG _ ((H o).mode≠ .dead) _ ⟨K (.int .i64 (n:Int),[o],[])⟩⟩⟩:=by simp only [quU,kB,kG,gu,qal,Option.bind_assoc,Option.bind_some]
variable (K':List (List AVal)×List Nat→Option β)
theorem qpV (t size st es):@kB _ _ (qhR P H t size (.slice st es)) ⟨K'⟩=@kG _ (st=size∨es=[]) _ ⟨K' (es,[])⟩:=by simp only [qhR,kB,kG,gu,qal,Option.bind_assoc,Option.bind_some]
theorem qwA (t size o g i n):@kB _ _ (qhR P H t size (.osl o g i n)) ⟨K'⟩=@kG _ ((H o).gen=g) _ ⟨@kG _ ((H o).mode≠ .dead) _ ⟨@kG _ ((H o).st=size) _ ⟨@kG _ (i+n≤(H o).rows.length) _ ⟨K' (((H o).rows.drop i).take n,[o])⟩⟩⟩⟩:=by simp only [qhR,kB,kG,gu,qal,Option.bind_assoc,Option.bind_some]
theorem qwB (t size l):@kB _ _ (qhR P H t size (.str l)) ⟨K'⟩=@kG _ (P.isStr t=true) _ ⟨@kG _ (size=1) _ ⟨K' (l.map qab,[])⟩⟩:=by simp only [qhR,kB,kG,gu,qal,Option.bind_assoc,Option.bind_some]
theorem qwC (t size):@kB _ _ (qhR P H t size (.sc (.slice none 0 0))) ⟨K'⟩=K' ([],[]):=rfl
theorem qsH (t size a c):@kB _ _ (qhR P H t size (.sc (.slice (some a) 0 c))) ⟨K'⟩=K' ([],[]):=rfl
theorem qwD (t u d s k n):@kB _ _ (qAF P H t u d s (.int k n)) ⟨K⟩=@kB _ _ (qis P H t u d s n) ⟨K⟩:=rfl
theorem qpW (t u d s st es):@kB _ _ (qAF P H t u d s (.slice st es)) ⟨K⟩=@kB _ _ (qcJ P H t u d s (.slice st es)) ⟨K⟩:=rfl
theorem qwE (t u d s o g i n):@kB _ _ (qAF P H t u d s (.osl o g i n)) ⟨K⟩=@kB _ _ (qcJ P H t u d s (.osl o g i n)) ⟨K⟩:=rfl
theorem qwF (t u d s l):@kB _ _ (qAF P H t u d s (.str l)) ⟨K⟩=@kB _ _ (qcJ P H t u d s (.str l)) ⟨K⟩:=rfl
theorem qBv (t u d s v):@kB _ _ (qAF P H t u d s (.sc v)) ⟨K⟩=@kB _ _ (qcJ P H t u d s (.sc v)) ⟨K⟩:=rfl
theorem qm8 (t u d x):@kB _ _ (qcJ P H t u d (.sc (.slice none 0 0)) x) ⟨K⟩=@kB _ _ (P.elemO t) ⟨fun size=>@kB _ _ (P.elemBytes t) ⟨fun bytes=>@kB _ _ (P.elemZero t) ⟨fun z=>@kG _ (z.length=size) _ ⟨@kG _ (P.isInt u=false) _ ⟨@kG _ ((P.underlying u).isSome=true) _ ⟨
 @kB _ _ (qhR P H u size x) ⟨fun p=>@kG _ (qcg p.1=true) _ ⟨@kG _ (p.1.length * bytes≤140737488355328) _ ⟨@kG _ (p.1.length≤9223372036854775807) _ ⟨K (.osl (qan d) ((H (qan d)).gen+1) 0 p.1.length,qan d::p.2,[(qan d,qah H (qan d) size p.1)])⟩⟩⟩⟩⟩⟩⟩⟩⟩⟩:=by
 simp only [qcJ,kB,kG,gu,qal,Option.bind_assoc,Option.bind_some]
theorem qm9 (t u d o g i n x):@kB _ _ (qcJ P H t u d (.osl o g i n) x) ⟨K⟩=@kB _ _ (P.elemO t) ⟨fun size=>@kB _ _ (P.elemBytes t) ⟨fun bytes=>@kB _ _ (P.elemZero t) ⟨fun z=>@kG _ (z.length=size) _ ⟨@kG _ (P.isInt u=false) _ ⟨@kG _ ((P.underlying u).isSome=true) _ ⟨
 @kB _ _ (qhR P H u size x) ⟨fun p=>@kG _ (qcg p.1=true) _ ⟨@kG _ ((H o).gen=g) _ ⟨@kG _ ((H o).mode= .live) _ ⟨@kG _ ((H o).st=size) _ ⟨@kG _ (i+n≤(H o).rows.length) _ ⟨@kG _ ((n+p.1.length) * bytes≤140737488355328) _ ⟨@kG _ (n+p.1.length≤9223372036854775807) _ ⟨
   K (.osl o (g+1) 0 (n+p.1.length),o::p.2,[(o,⟨g+1,.live,size,((H o).rows.drop i).take n++p.1,false⟩)])⟩⟩⟩⟩⟩⟩⟩⟩⟩⟩⟩⟩⟩⟩:=by
 simp only [qcJ,kB,kG,gu,qal,Option.bind_assoc,Option.bind_some]
theorem qna (t o g i n lo hi mx):@kB _ _ (qfK P H t (.osl o g i n) lo hi mx) ⟨K⟩=@kG _ ((H o).gen=g) _ ⟨@kG _ ((H o).mode≠ .dead) _ ⟨@kG _ (P.elemO t=some (H o).st) _ ⟨@kG _ (0<(H o).rows.length) _ ⟨@kB _ _ (bnd (some mx) 0 ((H o).rows.length - i)) ⟨fun m=>@kB _ _ (bnd (some hi) 0 m) ⟨fun h=>@kB _ _ (bnd lo 0 h) ⟨fun _=>K (.junk,[o],[])⟩⟩⟩⟩⟩⟩⟩:=by
 simp only [qfK,kB,kG,gu,qal,Option.bind_assoc,Option.bind_some]
theorem qpX (t u o g i n x):@kB _ _ (qit P H t u (.osl o g i n) x) ⟨K⟩=@kB _ _ (P.elemO t) ⟨fun size=>@kG _ (P.isInt u=false) _ ⟨@kG _ ((P.underlying u).isSome=true) _ ⟨
 @kB _ _ (qhR P H u size x) ⟨fun p=>@kG _ (qcg p.1=true) _ ⟨@kG _ ((H o).gen=g) _ ⟨@kG _ ((H o).mode= .live) _ ⟨@kG _ ((H o).st=size) _ ⟨@kG _ (i+n+p.1.length≤(H o).rows.length) _ ⟨
   K (.osl o g i (n+p.1.length),o::p.2,[(o,{ H o with rows:=(H o).rows.take (i+n)++p.1++(H o).rows.drop (i+n+p.1.length) })])⟩⟩⟩⟩⟩⟩⟩⟩⟩:=by
 simp only [qit,kB,kG,gu,qal,Option.bind_assoc,Option.bind_some]
theorem qpY (t o g i n):@kB _ _ (qiu P H t (.osl o g i n)) ⟨K⟩=@kB _ _ (P.elemO t) ⟨fun size=>@kB _ _ (P.elemZero t) ⟨fun z=>@kG _ (z.length=size) _ ⟨@kG _ (qcg [z]=true) _ ⟨@kG _ ((H o).gen=g) _ ⟨@kG _ ((H o).mode= .live) _ ⟨@kG _ ((H o).st=size) _ ⟨@kG _ (i+n≤(H o).rows.length) _ ⟨
   K (.tup [],[o],[(o,{ H o with rows:=(H o).rows.take i++List.replicate n z++(H o).rows.drop (i+n) })])⟩⟩⟩⟩⟩⟩⟩⟩:=by
 simp only [qiu,kB,kG,gu,qal,Option.bind_assoc,Option.bind_some]
theorem qsI {α β:Type} (p:Prop) [Decidable p] (a b:Option α) (f:α→Option β):(if p then a else b).bind f=if p then a.bind f else b.bind f:=by split<;>rfl
theorem qpZ (t u d o g i n k):@kB _ _ (qis P H t u d (.osl o g i n) k) ⟨K⟩=@kG _ (P.isInt u=true) _ ⟨@kB _ _ (P.elemO t) ⟨fun size=>@kG _ (0<size) _ ⟨@kB _ _ (P.elemBytes t) ⟨fun bytes=>@kB _ _ (P.elemZero t) ⟨fun z=>@kG _ (z.length=size) _ ⟨@kG _ (0≤k) _ ⟨
   @kG _ ((H o).gen=g) _ ⟨@kG _ ((H o).mode≠ .dead) _ ⟨@kG _ ((H o).st=size) _ ⟨@kG _ (i+n≤(H o).rows.length) _ ⟨@kG _ ((n+k.toNat) * bytes≤140737488355328) _ ⟨@kG _ (n+k.toNat≤9223372036854775807) _ ⟨
   if (H o).exact=true∧(H o).rows.length<i+n+k.toNat then K (.osl (qan d) ((H (qan d)).gen+1) 0 (n+k.toNat),[qan d,o],[(qan d,qah H (qan d) size (((H o).rows.drop i).take n++List.replicate k.toNat z))])
   else @kG _ ((H o).mode= .live) _ ⟨@kG _ (qcg (List.replicate k.toNat z)=true) _ ⟨K (.osl o (g+1) 0 (n+k.toNat),[o],[(o,⟨g+1,.live,size,((H o).rows.drop i).take n++List.replicate k.toNat z,false⟩)])⟩⟩⟩⟩⟩⟩⟩⟩⟩⟩⟩⟩⟩⟩⟩:=by
 simp only [qis,kB,kG,gu,qal,qsI,Option.bind_assoc,Option.bind_some,Option.bind_none]
theorem qwG (t o g i n):@kB _ _ (qDS P H t (.osl o g i n)) ⟨K⟩=@kG _ ((P.elemO t).isSome=true) _ ⟨@kG _ ((H o).gen=g) _ ⟨@kG _ ((H o).mode≠ .dead) _ ⟨@kG _ ((H o).exact=true) _ ⟨K (.int .i64 (((H o).rows.length - i:Nat):Int),[o],[])⟩⟩⟩⟩:=by
 simp only [qDS,kB,kG,gu,qal,Option.bind_assoc,Option.bind_some]
theorem qsJ (t u o g i n x):@kB _ _ (qpt P H t u (.osl o g i n) x) ⟨K⟩=@kB _ _ (P.elemO t) ⟨fun size=>@kB _ _ (qhR P H u size x) ⟨fun p=>@kG _ ((H o).gen=g) _ ⟨@kG _ ((H o).mode= .live) _ ⟨@kG _ ((H o).st=size) _ ⟨@kG _ (i+n≤(H o).rows.length) _ ⟨@kG _ (qcg (p.1.take (min p.1.length n))=true) _ ⟨
   K (.int .i64 ((min p.1.length n:Nat):Int),o::p.2,[(o,{ H o with rows:=(H o).rows.take i++p.1.take (min p.1.length n)++(H o).rows.drop (i+min p.1.length n) })])⟩⟩⟩⟩⟩⟩⟩:=by
 simp only [qpt,kB,kG,gu,qal,Option.bind_assoc,Option.bind_some]
end
section
variable {β:Type} (E:Env) (M:Mds) (O:Orc) (H:qac)
theorem qBw (f vals d) (K:Out→Option β):@kB _ _ (qeL E M O f vals d H) ⟨K⟩=@kG _ (E.P.goFn f=true) _ ⟨@kB _ _ (qgq H (M.par f) (E.P.parK f) vals) ⟨fun p=>@kG _ (qcL p.2.1=true) _ ⟨@kG _ (qd1 p.2.1 p.2.2=true) _ ⟨
  @kB _ _ (O f (qb8 H (M.par f) 0 vals p.1) p.1) ⟨fun q=>@kG _ (qc8 H (qaq vals p.1) q.2=true) _ ⟨@kB _ _ (qsa H p.2.1 p.2.2 (qaq vals p.1) d q.1 q.2 (if q.1.flat&&qb1 q.2 then [] else p.2.2)) ⟨K⟩⟩⟩⟩⟩⟩⟩:=by
 simp only [qeL,kB,kG,gu,qal,Option.bind_assoc,Option.bind_some]
theorem qnb (ms kss) (K:_→Option β):@kB _ _ (qgq H ms kss []) ⟨K⟩=K ([],[],[]):=rfl
theorem qld (ms kss v vs) (K:_→Option β):@kB _ _ (qgq H ms kss (v::vs)) ⟨K⟩=@kB _ _ (qkO H (ms.headD 0) (kss.headD []) v) ⟨fun p=>@kB _ _ (qgq H ms.tail kss.tail vs) ⟨fun q=>K (p.1::q.1,p.2.1++q.2.1,p.2.2++q.2.2)⟩⟩:=by
 simp only [qgq,kB,kG,gu,qal,Option.bind_assoc,Option.bind_some]
theorem qBx (m ks v) (K:Pko→Option β):@kB _ _ (qkO H m ks v) ⟨K⟩=if m=0 then @kB _ _ (pkE H 4 v) ⟨fun p=>K (qgH false ks p.1,[],p.2)⟩ else @kB _ _ (pkO H 4 v) ⟨fun p=>K (qgH true ks p.1,p.2)⟩:=by
 simp only [qkO];split<;>simp only [kB,kG,gu,qal,Option.bind_assoc,Option.bind_some]
theorem qbR (n v) (h:v.plain=true) (K:_→Option β):@kB _ _ (pkE H n v) ⟨K⟩=K (v,[]):=by
 cases n with
 | zero=>cases v<;>simp [AVal.plain]at h<;>simp [pkE,AVal.clo,AVal.plain,gu,kB]
 | succ n=>cases v<;>simp [AVal.plain]at h<;>simp [pkE,AVal.plain,gu,kB]
theorem qp0 (n b) (K:_→Option β):@kB _ _ (pkE H n (.bool b)) ⟨K⟩=K (.bool b,[]):=qbR H n _ rfl K
theorem qsK (n k i) (K:_→Option β):@kB _ _ (pkE H n (.int k i)) ⟨K⟩=K (.int k i,[]):=qbR H n _ rfl K
theorem qsL (n l) (K:_→Option β):@kB _ _ (pkE H n (.str l)) ⟨K⟩=K (.str l,[]):=qbR H n _ rfl K
theorem qwH (n v) (K:_→Option β):@kB _ _ (pkE H n (.sc v)) ⟨K⟩=K (.sc v,[]):=qbR H n _ rfl K
theorem qp1 (n cs) (K:_→Option β):@kB _ _ (pkE H n (.iptr cs)) ⟨K⟩=K (.iptr cs,[]):=qbR H n _ rfl K
theorem qnc (n st es) (K:_→Option β):@kB _ _ (pkE H n (.slice st es)) ⟨K⟩=K (.slice st es,[]):=qbR H n _ rfl K
theorem qp2 (n ) (K:_→Option β):@kB _ _ (pkE H n (.junk)) ⟨K⟩=K (.junk,[]):=qbR H n _ rfl K
theorem qsM (n cs) (K:_→Option β):@kB _ _ (pkE H (n+1) (.agg cs)) ⟨K⟩=@kB _ _ (pkL (pkE H n) cs) ⟨fun p=>K (.agg p.1,p.2)⟩:=by simp only [pkE,kB,kG,gu,qal,Option.bind_assoc,Option.bind_some]
theorem qwI (n f fs cs) (K:_→Option β):@kB _ _ (pkE H (n+1) (.fn f fs cs)) ⟨K⟩=@kB _ _ (pkL (pkE H n) fs) ⟨fun p=>@kB _ _ (pkL (pkE H n) cs) ⟨fun q=>K (.fn f p.1 q.1,p.2++q.2)⟩⟩:=by simp only [pkE,kB,kG,gu,qal,Option.bind_assoc,Option.bind_some]
theorem qsN (n o g i m) (K:_→Option β):@kB _ _ (pkE H (n+1) (.osl o g i m)) ⟨K⟩=@kG _ ((H o).gen=g) _ ⟨@kG _ ((H o).mode≠ .dead) _ ⟨@kG _ (i+m≤(H o).rows.length) _ ⟨@kB _ _ (qeA (pkE H n) (((H o).rows.drop i).take m)) ⟨fun p=>K (.slice (H o).st p.1,o::p.2)⟩⟩⟩⟩:=by
 simp only [pkE,kB,kG,gu,qal,Option.bind_assoc,Option.bind_some]
theorem qsO (n o g i j) (K:_→Option β):@kB _ _ (pkE H (n+1) (.ptr o g i j)) ⟨K⟩=@kG _ ((H o).gen=g) _ ⟨@kG _ ((H o).mode≠ .dead) _ ⟨@kB _ _ ((H o).rows[i]?) ⟨fun r=>@kB _ _ (pkL (pkE H n) (qrc (r.drop j))) ⟨fun p=>K (.iptr p.1,o::p.2)⟩⟩⟩⟩:=by
 simp only [pkE,kB,kG,gu,qal,Option.bind_assoc,Option.bind_some]
theorem qsP (f) (K:_→Option β):@kB _ _ (pkL f []) ⟨K⟩=K ([],[]):=rfl
theorem qp3 (f v vs) (K:_→Option β):@kB _ _ (pkL f (v::vs)) ⟨K⟩=@kB _ _ (f v) ⟨fun p=>@kB _ _ (pkL f vs) ⟨fun q=>K (p.1::q.1,p.2++q.2)⟩⟩:=by simp only [pkL,kB,kG,gu,qal,Option.bind_assoc,Option.bind_some]
theorem qwJ (f rs) (K:_→Option β):@kB _ _ (qeA f rs) ⟨K⟩=if rs.all qbL=true then K (rs,[]) else @kB _ _ (qre f rs) ⟨K⟩:=by simp only [qeA];split<;>rfl
theorem qp4 (f) (K:_→Option β):@kB _ _ (qre f []) ⟨K⟩=K ([],[]):=rfl
theorem qcM (n v) (h:v.plain=true) (K:_→Option β):@kB _ _ (pkO H n v) ⟨K⟩=K (v,[],[]):=by
 cases n with
 | zero=>cases v<;>simp [AVal.plain]at h<;>simp [pkO,AVal.clo,AVal.plain,gu,kB]
 | succ n=>cases v<;>simp [AVal.plain]at h<;>simp [pkO,pkE,AVal.plain,gu,kB]
theorem qp5 (n b) (K:_→Option β):@kB _ _ (pkO H n (.bool b)) ⟨K⟩=K (.bool b,[],[]):=qcM H n _ rfl K
theorem qsQ (n k i) (K:_→Option β):@kB _ _ (pkO H n (.int k i)) ⟨K⟩=K (.int k i,[],[]):=qcM H n _ rfl K
theorem qsR (n l) (K:_→Option β):@kB _ _ (pkO H n (.str l)) ⟨K⟩=K (.str l,[],[]):=qcM H n _ rfl K
theorem qwK (n v) (K:_→Option β):@kB _ _ (pkO H n (.sc v)) ⟨K⟩=K (.sc v,[],[]):=qcM H n _ rfl K
theorem qnd (n st es) (K:_→Option β):@kB _ _ (pkO H n (.slice st es)) ⟨K⟩=K (.slice st es,[],[]):=qcM H n _ rfl K
theorem qsS (n cs) (K:_→Option β):@kB _ _ (pkO H (n+1) (.agg cs)) ⟨K⟩=@kB _ _ (qpu (pkO H n) cs) ⟨fun p=>K (.agg p.1,p.2)⟩:=by simp only [pkO,kB,kG,gu,qal,Option.bind_assoc,Option.bind_some]
theorem qsT (n o g i m) (K:_→Option β):@kB _ _ (pkO H (n+1) (.osl o g i m)) ⟨K⟩=if (H o).mode= .live∧i=0∧m≤(H o).rows.length then @kG _ ((H o).gen=g) _ ⟨@kB _ _ (qeA (pkE H n) ((H o).rows.take m)) ⟨fun p=>K (.usl (H o).st p.1,[o],p.2)⟩⟩
  else @kB _ _ (pkE H (n+1) (.osl o g i m)) ⟨fun p=>K (p.1,[],p.2)⟩:=by
 simp only [pkO];split<;>simp only [kB,kG,gu,qal,Option.bind_assoc,Option.bind_some]
theorem qsU (n o g i j) (K:_→Option β):@kB _ _ (pkO H (n+1) (.ptr o g i j)) ⟨K⟩=@kG _ ((H o).gen=g) _ ⟨@kG _ ((H o).mode= .live) _ ⟨@kG _ (i=0∧j=0) _ ⟨@kB _ _ (qr8 (qpu (pkO H n)) o (H o).rows) ⟨K⟩⟩⟩⟩:=by
 simp only [pkO,kB,kG,gu,qal,Option.bind_assoc,Option.bind_some]
theorem qBy (f o r) (K:Pko→Option β):@kB _ _ (qr8 f o [r]) ⟨K⟩=@kB _ _ (f r) ⟨fun p=>K (.uptr p.1,o::p.2.1,p.2.2)⟩:=by simp only [qr8,kB,kG,gu,qal,Option.bind_assoc,Option.bind_some]
theorem qp6 (f) (K:_→Option β):@kB _ _ (qpu f []) ⟨K⟩=K ([],[],[]):=rfl
theorem qne (f v vs) (K:_→Option β):@kB _ _ (qpu f (v::vs)) ⟨K⟩=@kB _ _ (f v) ⟨fun p=>@kB _ _ (qpu f vs) ⟨fun q=>K (p.1::q.1,p.2.1++q.2.1,p.2.2++q.2.2)⟩⟩:=by simp only [qpu,kB,kG,gu,qal,Option.bind_assoc,Option.bind_some]
theorem qBz (u b lent d r ls bz) (K:Out→Option β):@kB _ _ (qsa H u b lent d r ls bz) ⟨K⟩=
 @kG _ (qcL ((qcZ (qa0 H u lent bz) (qan d) r++qaY (qa0 H u lent bz) lent ls).map (·.1))=true) _ ⟨
 K (qie (qa0 H u lent bz) (qan d) r,
   u++b++(qaV H u lent bz++(qcZ (qa0 H u lent bz) (qan d) r++qaY (qa0 H u lent bz) lent ls)).map (·.1),
   qaV H u lent bz++(qcZ (qa0 H u lent bz) (qan d) r++qaY (qa0 H u lent bz) lent ls))⟩:=by
 simp only [qsa,kB,kG,gu,qal,Option.bind_assoc,Option.bind_some]
end
theorem qwL (H:qac) (u os bz:List Nat):qa0 H u os bz=H.setAll (qaV H u os bz):=rfl
def mkU (H:qac) (u lent:List Nat):List Nat→List (Nat×Obj)
 | []=>[]
 | o::os=>(o,qbQ H u lent o)::mkU H u lent os
theorem qBA (H:qac) (u lent):mkU H u lent []=[]:=rfl
theorem qon (H:qac) (u lent o os):mkU H u lent (o::os)=(o,qbQ H u lent o)::mkU H u lent os:=rfl
theorem qsV (H:qac) (u os bz:List Nat):qaV H u os bz=mkU H u os (u++bz):=by
 unfold qaV
 induction (u++bz)with
 | nil=>rfl
 | cons o l ih=>rw [List.map_cons,ih,qon]
theorem qp7 (H:qac) (u lent:List Nat) (o:Nat):qbQ H u lent o=if o∈lent then { H o with rows:=[List.replicate (H o).st .junk] }
 else if o∈u then ⟨(H o).gen+1,.dead,(H o).st,[],false⟩
 else { H o with mode:=if (H o).mode= .live then .froz else (H o).mode }:=rfl
theorem qp8 (H:qac) (ls):qaY H [] ls=[]:=by simp [qaY]
theorem qnf (H:qac) (o os cs ls):qaY H (o::os) (.uptr cs::ls)=qba H o 0 cs++((o,{ H o with rows:=[qaX H o 0 cs],exact:=false })::qaY H os ls):=rfl
section
variable (vs ds:List AVal)
theorem qp9:qaq [] ds=[]:=by cases ds<;>rfl
theorem qqa (o g i j cs):qaq (.ptr o g i j::vs) (.uptr cs::ds)=o::qaq vs ds:=rfl
theorem qng (o g i j cs):qaq (.ptr o g i j::vs) (.iptr cs::ds)=qaq vs ds:=rfl
theorem qqb (k n d):qaq (.int k n::vs) (d::ds)=qaq vs ds:=rfl
theorem qnh (b d):qaq (.bool b::vs) (d::ds)=qaq vs ds:=rfl
theorem qqc (b d):qaq (.str b::vs) (d::ds)=qaq vs ds:=rfl
theorem qsW (b d):qaq (.sc b::vs) (d::ds)=qaq vs ds:=rfl
theorem qqd (b d):qaq (.agg b::vs) (d::ds)=qaq vs ds:=rfl
theorem qsX (f a b d):qaq (.fn f a b::vs) (d::ds)=qaq vs ds:=rfl
theorem qle (st es d):qaq (.slice st es::vs) (d::ds)=qaq vs ds:=rfl
theorem qqe (o g i n d):qaq (.osl o g i n::vs) (d::ds)=qaq vs ds:=rfl
theorem qni (cs d):qaq (.iptr cs::vs) (d::ds)=qaq vs ds:=rfl
variable (H:qac) (k:Nat)
theorem qwM (ms):qb8 H ms k [] ds=[]:=by cases ds<;>rfl
theorem qwN (ms o g i n st es):qb8 H ms k (.osl o g i n::vs) (.usl st es::ds)=if (H o).exact=true∧n=(H o).rows.length then k::qb8 H ms.tail (k+1) vs ds else qb8 H ms.tail (k+1) vs ds:=rfl
theorem qsY (ms o g i n st es):qb8 H ms k (.osl o g i n::vs) (.slice st es::ds)=qb8 H ms.tail (k+1) vs ds:=rfl
theorem qwO (ms o g i j d):qb8 H ms k (.ptr o g i j::vs) (d::ds)=qb8 H ms.tail (k+1) vs ds:=by simp [qb8]
theorem qwP (ms a n d):qb8 H ms k (.int a n::vs) (d::ds)=qb8 H ms.tail (k+1) vs ds:=by simp [qb8]
theorem qsZ (ms b d):qb8 H ms k (.bool b::vs) (d::ds)=qb8 H ms.tail (k+1) vs ds:=by simp [qb8]
theorem qwQ (ms b d):qb8 H ms k (.str b::vs) (d::ds)=qb8 H ms.tail (k+1) vs ds:=by simp [qb8]
theorem qwR (ms b st es):qb8 H ms k (.sc b::vs) (.slice st es::ds)=qb8 H ms.tail (k+1) vs ds:=by simp [qb8]
theorem qwS (ms b st es):qb8 H ms k (.sc b::vs) (.usl st es::ds)=if ms.headD 0=2∧qr9 (.sc b)=true then k::qb8 H ms.tail (k+1) vs ds else qb8 H ms.tail (k+1) vs ds:=by simp only [qb8]
theorem qqf:qr9 (.sc (.slice none 0 0))=true:=rfl
theorem qwT (ms b d):qb8 H ms k (.agg b::vs) (d::ds)=qb8 H ms.tail (k+1) vs ds:=by simp [qb8]
theorem qBB (ms f a b d):qb8 H ms k (.fn f a b::vs) (d::ds)=qb8 H ms.tail (k+1) vs ds:=by simp [qb8]
theorem qqg (ms st es d):qb8 H ms k (.slice st es::vs) (d::ds)=qb8 H ms.tail (k+1) vs ds:=by simp [qb8]
theorem qs0 (ms cs d):qb8 H ms k (.iptr cs::vs) (d::ds)=qb8 H ms.tail (k+1) vs ds:=by simp [qb8]
theorem qqh:qc8 H [] []=true:=rfl
theorem qnj (o os cs ls):qc8 H (o::os) (.uptr cs::ls)=(decide (cs.length=(H o).st)&&qc8 H os ls):=rfl
end
theorem qqi:qcL []=true:=rfl
theorem qqj (x):qcL [x]=true:=by simp [qcL]
theorem qnk (x y:Nat) (xs):qcL (x::y::xs)=(!(y::xs).contains x&&qcL (y::xs)):=rfl
theorem qqk (b):qd1 [] b=true:=rfl
theorem qs1 (u):qd1 u []=true:=by simp [qd1]
theorem qnl (x xs b):qd1 (x::xs) b=(!b.contains x&&qd1 xs b):=by simp [qd1]
section
variable (own:Bool) (ks:List Nat)
theorem qwU (k n):qgH own ks (.int k n)= .int k n:=by simp [qgH,qiw]
theorem qs2 (b):qgH own ks (.bool b)= .bool b:=by simp [qgH,qiw]
theorem qwV (l):qgH own ks (.str l)= .str l:=by simp [qgH,qiw]
theorem qql (st es):qgH own ks (.slice st es)= .slice st es:=by simp [qgH,qiw]
theorem qwW (st es):qgH own ks (.usl st es)= .usl st es:=by simp [qgH,qiw]
theorem qs3 (cs):qgH own ks (.uptr cs)= .uptr cs:=by simp [qgH,qiw]
theorem qs4 (cs):qgH own ks (.iptr cs)= .iptr cs:=by simp [qgH,qiw]
theorem qBC (f a c):qgH own ks (.fn f a c)= .fn f a c:=by simp [qgH,qiw]
theorem qwX (k ks):qgH own ((k+1)::ks) (.sc (.slice none 0 0))=if own=true then .usl k [] else .slice k []:=rfl
theorem qwY (cs):qgH own ks (.agg cs)= .agg (qpv own ks cs):=rfl
theorem qs5:qpv own ks []=[]:=by cases ks<;>rfl
theorem qs6 (k v vs):qpv own (k::ks) (v::vs)=qiw own k v::qpv own ks vs:=rfl
variable (k:Nat)
theorem qs7 (v):qiw own 0 v=v:=by unfold qiw;split<;>first | contradiction | rfl
theorem qqm (st es):qiw own k (.slice st es)= .slice st es:=by simp [qiw]
theorem qwZ (st es):qiw own k (.usl st es)= .usl st es:=by simp [qiw]
theorem qw0:qiw own (k+1) (.sc (.slice none 0 0))=if own=true then .usl k [] else .slice k []:=rfl
end
def qIB (f:Nat→AVal) (H:qac) [K:Hold (Cf×List ResultVar×List Nat×List (List Nat)×List AVal)]:Option Res:=qzq K.val.1.E K.val.2.1 K.val.2.2.1 K.val.2.2.2.1 K.val.2.2.2.2 f H
def qE (C:Cf) (rvs:List ResultVar) (ms:List Nat) (kss:List (List Nat)) (ds:List AVal):Exit→St→Option Res:=fun e s=>if qgs e=true then qzq C.E rvs ms kss ds s.fr s.H else none
section
variable (C:Cf) (rvs:List ResultVar) (ms:List Nat) (kss:List (List Nat)) (ds:List AVal) (f:Nat→AVal) (H:qac)
theorem qM7:qE C rvs ms kss ds .normal ⟨f,H⟩=@qIB f H ⟨(C,rvs,ms,kss,ds)⟩:=rfl
theorem qM8:qE C rvs ms kss ds .ret ⟨f,H⟩=@qIB f H ⟨(C,rvs,ms,kss,ds)⟩:=rfl
def kRv (f:Nat→AVal) (H:qac) (rvs:List ResultVar) [K:Hold (Cf×List AVal×(List AVal→Option Res))]:Option Res:=(qrf K.val.1.E f H rvs).bind fun vs=>K.val.2.2 (K.val.2.1++vs)
theorem qBD:@qIB f H ⟨(C,rvs,ms,kss,ds)⟩=@kRv f H rvs ⟨(C,[],fun vs=>@kB _ _ (qkW H ms kss vs) ⟨fun p=>@kB _ _ (qh1 H (qa3 0 ds)) ⟨fun q=>
  @kG _ (qcL (p.2.1++q.2.1)=true) _ ⟨@kG _ (qd1 (p.2.1++q.2.1) (p.2.2++q.2.2)=true) _ ⟨some (p.1,q.1)⟩⟩⟩⟩)⟩:=by
 simp only [qIB,qzq,kRv,kB,kG,gu,List.nil_append]
theorem qBE (acc Q):@kRv f H [] ⟨(C,acc,Q)⟩=Q acc:=by simp [kRv,qrf]
theorem qBF (t rest acc Q):@kRv f H (.tmp t::rest) ⟨(C,acc,Q)⟩=@kRv f H rest ⟨(C,acc++[f t],Q)⟩:=by
 simp [kRv,qrf,rvE,Option.bind_assoc]
theorem qw1 (x t rest acc Q):@kRv f H (.cell x t::rest) ⟨(C,acc,Q)⟩=@kB _ _ (C.E.P.szO t) ⟨fun n=>@kB _ _ (C.E.P.rowO t) ⟨fun g=>@kG _ (g=false→n=1) _ ⟨@kB _ _ (qgp H g n (f x)) ⟨fun q=>@kRv f H rest ⟨(C,acc++[q.1],Q)⟩⟩⟩⟩⟩:=by
 simp only [kRv,qrf,rvE,qAI,kB,kG,gu,Option.bind_assoc]
 congr 1;funext n;congr 1;funext g
 split
 ·simp only [Option.bind_assoc,Option.bind_some,List.append_assoc,List.cons_append,List.nil_append]
 ·rfl
end
section
variable {β:Type} (H:qac)
theorem qw2 (ms kss v) (K:Pko→Option β):@kB _ _ (qkW H ms kss [v]) ⟨K⟩=@kB _ _ (qkO H (ms.headD 0) (kss.headD []) v) ⟨K⟩:=rfl
theorem qw3 (ms kss) (K:Pko→Option β):@kB _ _ (qkW H ms kss []) ⟨K⟩=K (.tup [],[],[]):=rfl
theorem qw4 (ms kss v w vs) (K:Pko→Option β):@kB _ _ (qkW H ms kss (v::w::vs)) ⟨K⟩=@kB _ _ (qgq H ms kss (v::w::vs)) ⟨fun p=>K (.tup p.1,p.2)⟩:=by
 simp only [qkW,kB,kG,gu,qal,Option.bind_assoc,Option.bind_some]
theorem qnm (K:_→Option β):@kB _ _ (qh1 H []) ⟨K⟩=K ([],[],[]):=rfl
theorem qlf (v vs) (K:_→Option β):@kB _ _ (qh1 H (v::vs)) ⟨K⟩=@kB _ _ (pkO H 4 v) ⟨fun p=>@kB _ _ (qh1 H vs) ⟨fun q=>K (p.1::q.1,p.2.1++q.2.1,p.2.2++q.2.2)⟩⟩:=by
 simp only [qh1,kB,kG,gu,qal,Option.bind_assoc,Option.bind_some]
theorem qqn (k):qa3 k []=[]:=rfl
theorem qnn (k cs ds):qa3 k (.uptr cs::ds)= .ptr (k+1) 1 0 0::qa3 (k+1) ds:=rfl
theorem qqo (k a n ds):qa3 k (.int a n::ds)=qa3 (k+1) ds:=rfl
theorem qno (k b ds):qa3 k (.bool b::ds)=qa3 (k+1) ds:=rfl
theorem qqp (k b ds):qa3 k (.str b::ds)=qa3 (k+1) ds:=rfl
theorem qs8 (k b ds):qa3 k (.sc b::ds)=qa3 (k+1) ds:=rfl
theorem qqq (k b ds):qa3 k (.agg b::ds)=qa3 (k+1) ds:=rfl
theorem qs9 (k f a b ds):qa3 k (.fn f a b::ds)=qa3 (k+1) ds:=rfl
theorem qlg (k st es ds):qa3 k (.slice st es::ds)=qa3 (k+1) ds:=rfl
theorem qqr (k st es ds):qa3 k (.usl st es::ds)=qa3 (k+1) ds:=rfl
theorem qnp (k cs ds):qa3 k (.iptr cs::ds)=qa3 (k+1) ds:=rfl
end
def Cf.at (C:Cf) (f:FuncId):Cf:=⟨C.E,C.M.at f,C.X⟩
theorem qM9 (C:Cf) (f):(C.at f).E=C.E:=Eq.trans rfl rfl
theorem qNa (C:Cf) (f):(C.at f).X=C.X:=Eq.trans rfl rfl
theorem qEF (C:Cf) (f):(C.at f).M.par=C.M.par:=Eq.trans rfl rfl
theorem qEG (C:Cf) (f):(C.at f).M.res=C.M.res:=Eq.trans rfl rfl
theorem qEH (C:Cf) (f):(C.at f).M.loc=C.M.loc:=Eq.trans rfl rfl
theorem qEI (C:Cf) (f):(C.at f).M.cur=C.M.nl f:=Eq.trans rfl rfl
theorem qBG (C:Cf) (f):(C.at f).M.base=0:=Eq.trans rfl rfl
theorem qBH (C:Cf) (f):(C.at f).M.inls=C.M.inls:=Eq.trans rfl rfl
theorem qJz (C:Cf) (f):(C.at f).M.gh=C.M.gh:=Eq.trans rfl rfl
theorem qJA (C:Cf) (f):(C.at f).M.nl=C.M.nl:=Eq.trans rfl rfl
def Cf.inat (C:Cf) (f:FuncId):Cf:=⟨C.E,C.M.inat f,C.X⟩
theorem qEJ (C:Cf) (f):(C.inat f).E=C.E:=Eq.trans rfl rfl
theorem qEK (C:Cf) (f):(C.inat f).X=C.X:=Eq.trans rfl rfl
theorem qw5 (C:Cf) (f):(C.inat f).M.par=C.M.par:=Eq.trans rfl rfl
theorem qw6 (C:Cf) (f):(C.inat f).M.res=C.M.res:=Eq.trans rfl rfl
theorem qw7 (C:Cf) (f):(C.inat f).M.loc=C.M.loc:=Eq.trans rfl rfl
theorem qw8 (C:Cf) (f):(C.inat f).M.cur=C.M.nl f:=Eq.trans rfl rfl
theorem qta (C:Cf) (f):(C.inat f).M.base=qjW C.M.inls f:=Eq.trans rfl rfl
theorem qtb (C:Cf) (f):(C.inat f).M.inls=C.M.inls:=Eq.trans rfl rfl
theorem qBI (C:Cf) (f):(C.inat f).M.gh=C.M.gh:=Eq.trans rfl rfl
theorem qBJ (C:Cf) (f):(C.inat f).M.nl=C.M.nl:=Eq.trans rfl rfl
theorem qBK (C:Cf) (f):fn (C.inat f)=fn C:=qv3 f
theorem qBL (C:Cf) (f):il (C.inat f)=il C:=qv4 f
theorem qJB (C:Cf) (f):il (C.at f)=il C:=qEj f
theorem qtc (C:Cf) (f g):(C.inat f).inat g=C.inat g:=rfl
theorem qBM (C:Cf) (f g):(C.at f).inat g=C.inat g:=rfl
theorem qw9 (f):qjW [] f=0:=Eq.trans rfl rfl
theorem qtd (p l f):qjW (p::l) f=if p.1=f then p.2 else qjW l f:=Eq.trans rfl rfl
theorem qxa (d):shD 0 d=d:=Eq.trans rfl rfl
theorem qxb (b:Nat) (d:Tmp):shD (b+1) (some d)=some (b+1+d):=Eq.trans rfl rfl
theorem qxc (b:Nat):shD (b+1) none=some (b+1):=Eq.trans rfl rfl
theorem qxd (d ρ O):ghO none d ρ O=O:=Eq.trans rfl rfl
def qI {β:Type} (C:Cf) (rvs:List ResultVar) (K:AVal×qac→Option β):Exit→St→Option β:=fun e s=>if qgs e=true then (qrf C.E s.fr s.H rvs).bind fun vs=>K (qfy vs,s.H) else none
theorem qNb (C rvs) (K:AVal×qac→Option Res) (f H):qI C rvs K .normal ⟨f,H⟩=@kRv f H rvs ⟨(C,[],fun vs=>K (qfy vs,H))⟩:=by simp [qI,qgs,kRv]
theorem qNc (C rvs) (K:AVal×qac→Option Res) (f H):qI C rvs K .ret ⟨f,H⟩=@kRv f H rvs ⟨(C,[],fun vs=>K (qfy vs,H))⟩:=by simp [qI,qgs,kRv]
theorem qte:qfy []= .tup []:=rfl
theorem qEL (vals:List AVal):frm vals=frame 0 vals:=by
 funext t
 unfold frm
 rw [qi1];simp
theorem qag {C:Cf} {f:FuncId} {g:Func} {code:Code} {rvs:List ResultVar} (hf:C.E.P.funcs[f]?=some g) (hb:g.body=some code) (hr:g.results=List.toArray rvs) {lo:Nat} (hlo:C.M.loc f=lo) {vals H}
  (hok:qvV g code vals=true) (K:AVal×qac→Option Res):@kB _ _ (il C f vals H) ⟨K⟩=dw (C.inat f) lo code (qI C rvs K) ⟨frame 0 vals,H⟩:=by
 unfold il
 rw [qEl f vals H (by simp [Program.exFn,hf,hb]),hf]
 simp only [Option.bind_some,hb,gu,hok,if_true,dw,hlo,hr,List.toList_toArray,kB,Option.bind_assoc,qEL]
 congr 1
 funext p
 simp only [qI]
 by_cases h:qgs p.1=true<;>simp [h,Option.bind_assoc]
theorem qxe (P:Program) (f:FuncId):P.inFn f=(P.goFn f|| P.exFn f):=Eq.trans rfl rfl
theorem qJC {C:Cf} {f:FuncId} (hx:C.E.P.exFn f=true) (ho:OvF C.E.P f) {o1 g1 i1 n1 o2 g2 i2 n2 H} (K:AVal×qac→Option Res):@kB _ _ (il C f [.osl o1 g1 i1 n1,.osl o2 g2 i2 n2] H) ⟨K⟩=
  @kG _ (¬o1=o2) _ ⟨@kG _ (1≤n1) _ ⟨@kG _ (1≤n2) _ ⟨@kG _ ((H o1).gen=g1) _ ⟨@kG _ ((H o1).mode= .live) _ ⟨@kG _ (2≤(H o1).st) _ ⟨@kG _ ((H o2).gen=g2) _ ⟨@kG _ ((H o2).mode= .live) _ ⟨@kG _ (2≤(H o2).st) _ ⟨K (.bool false,H)⟩⟩⟩⟩⟩⟩⟩⟩⟩:=by
 unfold il
 rw [qEk hx]
 simp only [ovE]
 have e:@gu _ (OvF C.E.P f) (Classical.propDecidable _)=fun x:Option (AVal×qac)=>x:=by
  funext x
  exact if_pos ho
 rw [e]
 have l:∀(p:Prop) [Decidable p] (x:Option (AVal×qac)) (y:Option Res),x.bind K=y→(gu p x).bind K=@kG _ p _ ⟨y⟩:=fun p _ x y h=>by
  unfold gu kG;split
  ·exact h
  ·rfl
 exact l _ _ _ (l _ _ _ (l _ _ _ (l _ _ _ (l _ _ _ (l _ _ _ (l _ _ _ (l _ _ _ (l _ _ _ rfl))))))))
theorem qJD (C:Cf) (f):fn (C.at f)=fn C:=qEi f
theorem qBN {C:Cf} {f} (h:C.M.nl f=C.M.cur) (h2:C.M.base=0):C.at f=C:=by
 obtain ⟨E,M,X⟩:=C
 obtain ⟨a1,a2,a3,a4,a5,a6,a7,a8⟩:=M
 simp only at h h2
 subst h2
 simp only [Cf.at,Mds.at,h]
section
variable {β:Type}
def kN (m:Nat) (v:AVal) (d:Option Tmp) (H:qac) [K:Hold (Out→Option β)]:Option β:=
 match m with
 | 0=>K.val (v,[],[])
 | k+1=>match v with
  | .sc (.slice none 0 0)=>K.val (.osl (qan d) ((H (qan d)).gen+1) 0 0,[qan d],[(qan d,qah H (qan d) k [])])
  | v=>K.val (v,[],[])
theorem qEM (M H v) (K:Out→Option β):@kB _ _ (qAG M none H v) ⟨K⟩=K (v,[],[]):=rfl
theorem qEN (M H v) (d:Tmp) (K:Out→Option β):@kB _ _ (qAG M (some d) H v) ⟨K⟩=@kN _ (nlk M.cur d) v (shD M.base (some d)) H ⟨K⟩:=by
 show (qAG M (some d) H v).bind K=_
 have e:qAG M (some d) H v=(match nlk M.cur d with
  | 0=>some (v,[],[])
  | k+1=>match v with
   | .sc (.slice none 0 0)=>some (.osl (qan (shD M.base (some d))) ((H (qan (shD M.base (some d)))).gen+1) 0 0,[qan (shD M.base (some d))],[(qan (shD M.base (some d)),qah H (qan (shD M.base (some d))) k [])])
   | v=>some (v,[],[])):=rfl
 rw [e]
 unfold kN
 cases nlk M.cur d with
 | zero=>rfl
 | succ k=>
  cases v<;>try rfl
  rename_i x
  cases x<;>try rfl
  rename_i a n m
  cases a<;>cases n<;>cases m<;>rfl
theorem qBO (v d H) (K:Out→Option β):@kN _ 0 v d H ⟨K⟩=K (v,[],[]):=rfl
theorem qEO (k d H) (K:Out→Option β):@kN _ (k+1) (.sc (.slice none 0 0)) d H ⟨K⟩=K (.osl (qan d) ((H (qan d)).gen+1) 0 0,[qan d],[(qan d,qah H (qan d) k [])]):=rfl
theorem qEP (m d H o g i n) (K:Out→Option β):@kN _ m (.osl o g i n) d H ⟨K⟩=K (.osl o g i n,[],[]):=by cases m<;>rfl
theorem qxf (m d H st es) (K:Out→Option β):@kN _ m (.slice st es) d H ⟨K⟩=K (.slice st es,[],[]):=by cases m<;>rfl
end
theorem qBP (t):nlk [] t=0:=Eq.trans rfl rfl
theorem qxg (p l t):nlk (p::l) t=if p.1=t then p.2+1 else nlk l t:=Eq.trans rfl rfl
theorem qao {C:Cf} {f:FuncId} {g:Func} {code:Code} {rvs:List ResultVar} {ms kss} (hf:C.E.P.funcs[f]?=some g) (hX:C.X f=none) (hb:g.body=some code) (hr:g.results=List.toArray rvs) {lo:Nat} (hlo:C.M.loc f=lo) (hms:C.M.res f=ms) (hks:C.E.P.resK f=kss) {ex ds}
  (hok:qeB g code ex ds=true):fn C f ex ds=dw (C.at f) lo code (qE C rvs ms kss ds) ⟨frame 0 (qaX qac.nil 0 0 ds),qgb ex (qac.nil.setAll (qba qac.nil 0 0 ds))⟩:=by
 unfold fn
 rw [qzs,hX,hf]
 simp only [Option.bind_some,hb,gu,hok,if_true,dw,hlo,hms,hks,hr,List.toList_toArray]
 unfold qim
 rw [Am.start_eq]
 rfl
theorem qaa {C:Cf} {f:FuncId} {g:Func} {code:Code} {rvs:List ResultVar} {ms kss} (hf:C.E.P.funcs[f]?=some g) (hX:C.X f=none) (hb:g.body=some code) (hr:g.results=List.toArray rvs) {lo:Nat} (hlo:C.M.loc f=lo) (hms:C.M.res f=ms) (hks:C.E.P.resK f=kss) {ex ds}
  (hok:qeB g code ex ds=true) (hnl:C.M.nl f=C.M.cur:=by rfl) (hb0:C.M.base=0:=by rfl):fn C f ex ds=dw C lo code (qE C rvs ms kss ds) ⟨frame 0 (qaX qac.nil 0 0 ds),qgb ex (qac.nil.setAll (qba qac.nil 0 0 ds))⟩:=by
 have:=qao hf hX hb hr hlo hms hks hok
 rw [qBN hnl hb0]at this
 exact this
theorem qbo {C:Cf} {f:FuncId} {g} (hX:C.X f=some g) (ex ds):fn C f ex ds=g ex ds:=by
 unfold fn
 rw [qzs,hX]
theorem qxh (b):fnJ (.bool b)= .bool b:=rfl
theorem qBQ (k n):fnJ (.int k n)= .int k n:=rfl
theorem qBR (l):fnJ (.str l)= .str l:=rfl
theorem qEQ (v):fnJ (.sc v)= .sc v:=rfl
theorem qxi (cs):fnJ (.iptr cs)= .iptr cs:=rfl
theorem qtf (st es):fnJ (.slice st es)= .slice st es:=rfl
theorem qxj:fnJ (.junk)= .junk:=rfl
theorem qBS (cs):fnJ (.agg cs)= .agg cs:=rfl
theorem qBT (cs):fnJ (.tup cs)= .tup cs:=rfl
theorem qBU (o g i n):fnJ (.osl o g i n)= .osl o g i n:=rfl
theorem qBV (o g i j):fnJ (.ptr o g i j)= .ptr o g i j:=rfl
theorem qBW (st es):fnJ (.usl st es)= .usl st es:=rfl
theorem qER (f fs cs):fnJ (.fn f fs cs)= .junk:=rfl
theorem qxk:qrc []=[]:=rfl
theorem qtg (v vs):qrc (v::vs)=fnJ v::qrc vs:=rfl
attribute [go_sem] qxk qtg qER qxh qBQ qBR qEQ qxi qtf qxj qBS qBT qBU qBV qBW
attribute [congr] qv7
attribute [go_sem ↓] qv5 qso qAP qAU qwa qAV qEo qEp qAW qwb qwc qEq qEr qEs qAX qAY qAZ qsq qA0 qA1 qA2 qEt qEu qEv qEw qss qEx qA3 qEA qwp qEB qBl qJt qBm qk7 qm1 qk8 qm2 qk9 qEC qBn qpK qBo qED qJu qsx qpL qm3 qBp qm4 qBq qm5 qBr qsC qJv qJw qJx qwv qBs qJy qEE qEM qEN qM9 qNa qEF qEG qEH qEI qBG qBH qJz qJA qEJ qEK qw5 qw6 qw7 qw8 qta qtb qBI qBJ qtc qBM qBK qBL qJB qJD qNb qNc qM7 qM8 qBD qBE qBF qw1
attribute [go_sem] qxe Bool.true_or qw9 qtd qxa qxb qxc qxd qA5 qA6 qte qj3 qj4 qBO qEO qEP qxf qBP qxg qsA qsB qsu qsv qwq qsw qpI qpJ qwr qws qwt qwu qla qlb qsy qsz qna qpX qpY qjt qBt qwx qBu qAT qv9 qAN qAO qJr qAS qEm qJs qAQ qv8 qAR qA7 qA8 qA9 qst qBa qBb qwe qEy qwf qwg qjr qjs qBc qBd qBe qwh qmY qmZ qwi qwj qwk qBf qBg qBh qEz qpD qm0 qk0 qwl qk1 qk2 qk3 qwm qk4 qk5 qk6 qwn qwo qpE qpF qpG qpH qBi qBj qBk qsD qpM qpN qpO qm6 qsE qgt qh2 qh3 qho qpP qpQ qww qpR qlc qpS qpT qsF qsG qm7 qwy qpU qwz qpV qwA qwB qwC qsH qwD qpW qwE qwF qBv qm8 qm9 qpZ qwG qsJ qBw qnb qld qBx qp0 qsK qsL qwH qp1 qnc qp2 qsM qwI qsN qsO qsP qp3 qwJ qp4 qp5 qsQ qsR qwK qnd qsS qsT qsU qBy qp6 qne qBz qwL qsV qBA qon qp7 qp8 qnf qp9 qqa qng qqb qnh qqc qsW qqd qsX qle qqe qni qwM qwN qsY qwO qwP qsZ qwQ qwR qwS qqf qwT qBB qqg qs0 qqh qnj qqi qqj qnk qqk qs1 qnl qwU qs2 qwV qql qwW qs3 qs4 qBC qwX qwY qs5 qs6 qs7 qqm qwZ qw0 qw2 qw3 qw4 qnm qlf qqn qnn qqo qno qqp qs8 qqq qs9 qlg qqr qnp List.headD_cons List.headD_nil List.tail_cons List.tail_nil qfL qsr qmX qwd qpC qj2 qh6 qo6 qme
theorem qqs (b):(AVal.bool b).plain=true:=rfl
theorem qth (k n):(AVal.int k n).plain=true:=rfl
theorem qti (l):(AVal.str l).plain=true:=rfl
theorem qxl (v):(AVal.sc v).plain=true:=rfl
theorem qqt (cs):(AVal.iptr cs).plain=true:=rfl
theorem qnq (st es):(AVal.slice st es).plain=true:=rfl
theorem qqu:AVal.junk.plain=true:=rfl
theorem qtj (cs):(AVal.agg cs).plain=false:=rfl
theorem qtk (o g i n):(AVal.osl o g i n).plain=false:=rfl
theorem qtl (o g i n):(AVal.ptr o g i n).plain=false:=rfl
theorem qxm (f a b):(AVal.fn f a b).plain=false:=rfl
theorem qtm (a):(AVal.tup a).plain=false:=rfl
theorem qBX (cs):(AVal.agg cs).clo=qbL cs:=rfl
theorem qBY (l):(AVal.str l).clo=true:=rfl
theorem qBZ (k n):(AVal.int k n).clo=true:=rfl
theorem qxn (b):(AVal.bool b).clo=true:=rfl
theorem qES (b):(AVal.sc b).clo=true:=rfl
theorem qtn (st es):(AVal.slice st es).clo=true:=rfl
theorem qxo (cs):(AVal.iptr cs).clo=true:=rfl
theorem qB0 (o g i n):(AVal.osl o g i n).clo=false:=rfl
theorem qB1 (o g i n):(AVal.ptr o g i n).clo=false:=rfl
theorem qET (f a c):(AVal.fn f a c).clo=false:=rfl
theorem qxp:qbL []=true:=rfl
theorem qto (v vs):qbL (v::vs)=(v.clo&&qbL vs):=rfl
theorem qxq (cs):(AVal.agg cs).flat=qb1 cs:=rfl
theorem qxr (cs):(AVal.tup cs).flat=qb1 cs:=rfl
theorem qxs (l):(AVal.str l).flat=true:=rfl
theorem qxt (k n):(AVal.int k n).flat=true:=rfl
theorem qtp (b):(AVal.bool b).flat=true:=rfl
theorem qB2 (b):(AVal.sc b).flat=true:=rfl
theorem qqv (st es):(AVal.slice st es).flat=false:=rfl
theorem qxu (st es):(AVal.usl st es).flat=qcv es:=rfl
theorem qtq (cs):(AVal.uptr cs).flat=qb1 cs:=rfl
theorem qtr (cs):(AVal.iptr cs).flat=false:=rfl
theorem qB3 (f a c):(AVal.fn f a c).flat=false:=rfl
theorem qts:qb1 []=true:=rfl
theorem qqw (v vs):qb1 (v::vs)=(v.flat&&qb1 vs):=rfl
theorem qqx:qcv []=true:=rfl
theorem qnr (v vs):qcv (v::vs)=(qb1 v&&qcv vs):=rfl
theorem qci {α:Type} (f:α→List AVal) (h:∀x,qb1 (f x)=true):∀l:List α,qcv (l.map f)=true
 | []=>rfl
 | x::l=>by simp [qcv,h x,qci f h l]
theorem qaO {α:Type} (f:α→List AVal) (h:∀x,qbL (f x)=true) (l:List α):(l.map f).all qbL=true:=by simp [h]
theorem qns (l:List UInt8):qcv (l.map qab)=true:=qci _ (fun _=>rfl) l
theorem qlh (l:List UInt8):(l.map qab).all qbL=true:=qaO _ (fun _=>rfl) l
theorem qtt (l:List UInt8):qcg (l.map qab)=true:=qcy _ l fun _=>rfl
attribute [go_sem] qqs qth qti qxl qqt qnq qqu qtj qtk qtl qxm qtm qBX qBY qBZ qxn qES qtn qxo qB0 qB1 qET qxp qto qxq qxr qxs qxt qtp qB2 qqv qxu qtq qtr qB3 qts qqw qqx qnr qns qlh qtt List.all_append Bool.and_self
end Go.Am
