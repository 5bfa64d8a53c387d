import Derived.Test.YtnpkhdjgedeppaaGreatDoorDn3
namespace Go.Am
set_option linter.unusedSectionVars false
set_option linter.unusedVariables false
set_option linter.unusedSimpArgs false
structure Cf where
 E:Env
 M:Mds
 X:Own
noncomputable def fn (C:Cf):Orc:=fnE C.E C.M C.X
noncomputable def il (C:Cf):Inl:=inE C.E C.M C.X
noncomputable def fp (C:Cf):Or2:=fnP C.E C.M C.X
section
variable {α β:Type}
def kB (x:Option α) [K:Hold (α→Option β)]:Option β:=x.bind K.val
def kG (p:Prop) [Decidable p] [K:Hold (Option β)]:Option β:=if p then K.val else none
def kIf (t:Bool) [K:Hold (Option β×Option β)]:Option β:=if t=true then K.val.1 else K.val.2
def kD (p:Prop) [Decidable p] (a:p→Option β) (b:¬p→Option β):Option β:=if h:p then a h else b h
def kT (v:AVal) [K:Hold (Bool→Option β)]:Option β:=match v with | .bool t=>K.val t | _=>none
def kU (v:AVal) [K:Hold (Option β×Option β×Option β)]:Option β:=match v with | .bool t=>if t=true then K.val.1 else K.val.2.1 | .sc (.tuple ⟨[]⟩)=>K.val.2.2 | _=>none
def kI (v:AVal) [K:Hold (IntKind→Int→Option β)]:Option β:=match v with | .int k n=>K.val k n | _=>none
def kF (v:AVal) [K:Hold (FuncId→List AVal→List AVal→Option β)]:Option β:=match v with | .fn (.func f) fs cs=>K.val f fs cs | _=>none
theorem qy4 (a:α) (K:α→Option β):@kB _ _ (some a) ⟨K⟩=K a:=rfl
theorem qy5 (K:α→Option β):@kB α _ none ⟨K⟩=none:=rfl
theorem qy6 (p:Prop) [Decidable p] (x:Option α) (K:α→Option β):@kB _ _ (gu p x) ⟨K⟩=@kG _ p _ ⟨@kB _ _ x ⟨K⟩⟩:=by
 unfold gu kG;split<;>rfl
theorem qGO {p:Prop} [Decidable p] (h:p) (x:Option β):@kG _ p _ ⟨x⟩=x:=by simp [kG,h]
theorem quO (a b:Option β):@kIf _ true ⟨(a,b)⟩=a:=rfl
theorem qrg (a b:Option β):@kIf _ false ⟨(a,b)⟩=b:=rfl
theorem quP (t:Bool) (a b:Option β):@kIf _ t ⟨(a,b)⟩=kD (t=true) (fun _=>a) (fun _=>b):=by cases t<;>rfl
theorem quQ {p p':Prop} {_:Decidable p} [Decidable p'] {a:p→Option β} {a':p'→Option β} {b:¬p→Option β} {b':¬p'→Option β} (h:p=p') (h1:(x:p')→a (h.mpr x)=a' x) (h2:(x:¬p')→b (h.mpr_not x)=b' x):kD p a b=kD p' a' b':=dite_congr h h1 h2
theorem qy7 {h:Decidable True} (a:True→Option β) (b:¬True→Option β):@kD _ True h a b=a trivial:=by simp [kD]
theorem quR {h:Decidable False} (a:False→Option β) (b:¬False→Option β):@kD _ False h a b=b not_false:=by simp [kD]
theorem qy8 (p:Prop) [Decidable p] (a:Option β):kD p (fun _=>a) (fun _=>a)=a:=by simp [kD]
theorem qy9 (t:Bool) (K:Bool→Option β):@kT _ (.bool t) ⟨K⟩=K t:=rfl
theorem qza (t:Bool) (a b c:Option β):@kU _ (.bool t) ⟨(a,b,c)⟩=@kIf _ t ⟨(a,b)⟩:=rfl
theorem quS (a b c:Option β):@kU _ (.sc undef) ⟨(a,b,c)⟩=c:=rfl
theorem qCj (k n) (K:IntKind→Int→Option β):@kI _ (.int k n) ⟨K⟩=K k n:=rfl
theorem qGP (f fs cs) (K:FuncId→List AVal→List AVal→Option β):@kF _ (.fn (.func f) fs cs) ⟨K⟩=K f fs cs:=rfl
end
def qiK (n:St→Option Res) (Q:Exit→St→Option Res):Exit→St→Option Res
 | .normal,s=>n s
 | e,s=>Q e s
def qCk (id:Nat) (Q:Exit→St→Option Res):Exit→St→Option Res
 | .exit i,s=>if i=id then Q .normal s else Q (.exit i) s
 | e,s=>Q e s
def qF2 (Q:Exit→St→Option Res):Exit→St→Option Res
 | .goto _,_=>none
 | e,s=>Q e s
noncomputable def dw (C:Cf) (lo:Nat) (c:Code) (Q:Exit→St→Option Res) (s:St):Option Res:=(evI C.E C.M C.X lo c s).bind fun p=>Q p.1 p.2
noncomputable def qdN (f:Nat→AVal) (H:qac) [K:Hold (Cf×Nat×Code×(Exit→St→Option Res))]:Option Res:=dw K.val.1 K.val.2.1 (.loop K.val.2.2.1) K.val.2.2.2 ⟨f,H⟩
noncomputable def rN (C:Cf) (ops:Array Oper) (l:List Oper) (s:St) (K:St→Option Res):Option Res:=(qoD C.E C.M (fp C) ops l s).bind K
noncomputable def rD (C:Cf) (ops:Array Oper) (l:List Oper) (s:St) (tr:List (List Nat×List Nat)) (K:St→Option Res):Option Res:=(qng C.E C.M (fp C) ops l s tr).bind K
def qrh (lo:Nat) (Q:Exit→St→Option Res):St→Option Res:=fun s=>Q .normal ⟨qdo lo s.fr,s.H⟩
noncomputable def qaO (f:Nat→AVal) (H:qac) [K:Hold (Cf×Array Oper×Oper×(St→List Nat→List Nat→Option Res))]:Option Res:=
 (qfs K.val.1.E K.val.1.M (fp K.val.1) K.val.2.1 K.val.2.2.1 ⟨f,H⟩).bind fun q=>K.val.2.2.2 q.1 q.2.1 q.2.2
def qF3 [K:Hold (Array Oper×List (List Nat×List Nat)×Option Res)]:Option Res:=if qeh K.val.1 K.val.2.1=true then K.val.2.2 else none
section
variable (C:Cf) (lo:Nat) (Q:Exit→St→Option Res) (f:Nat→AVal) (H:qac) (s:St)
theorem qzb:dw C lo .skip Q s=Q .normal s:=by simp [dw,quH]
theorem quT (l):dw C lo (.label l) Q s=Q .normal s:=by simp [dw,qrb]
theorem qzc (l):dw C lo (.exit l) Q s=Q (.exit l) s:=by simp [dw,quI]
theorem qCl:dw C lo .ret Q s=Q .ret s:=by simp [dw,qy2]
theorem qCm (a b):dw C lo (.seq a b) Q s=dw C lo a (qiK (dw C lo b Q) Q) s:=by
 simp only [dw,qy3,Option.bind_assoc]
 congr 1
 funext p
 obtain ⟨e,s'⟩:=p
 cases e<;>rfl
theorem qzd (x a b):dw C lo (.cond x a b) Q ⟨f,H⟩=@kT _ (ev C.E.Γ f x) ⟨fun t=>@kIf _ t ⟨(dw C lo a Q ⟨f,H⟩,dw C lo b Q ⟨f,H⟩)⟩⟩:=by
 simp only [dw,quJ,kT]
 cases ev C.E.Γ f x<;>try rfl
 rename_i t
 cases t<;>rfl
theorem quU (id b):dw C lo (.block id b) Q s=dw C lo b (qCk id Q) s:=by
 simp only [dw,qrc,Option.bind_assoc]
 congr 1
 funext p
 obtain ⟨e,s'⟩:=p
 cases e<;>try rfl
 rename_i i
 simp only [qCk]
 split<;>rfl
theorem quV (b):dw C lo (.scope b) Q s=dw C lo b (qF2 Q) s:=by
 simp only [dw,qrd,Option.bind_assoc]
 congr 1
 funext p
 obtain ⟨e,s'⟩:=p
 cases e<;>rfl
theorem qCn:qF2 Q .normal s=Q .normal s:=rfl
theorem qCo:qF2 Q .ret s=Q .ret s:=rfl
theorem qCp (i):qF2 Q (.exit i) s=Q (.exit i) s:=rfl
theorem qze (b):dw C lo (.loop b) Q ⟨f,H⟩=@qdN f H ⟨(C,lo,b,Q)⟩:=rfl
theorem qdq (b):@qdN f H ⟨(C,lo,b,Q)⟩=dw C lo b (qiK (fun s=>@qdN s.fr s.H ⟨(C,lo,b,Q)⟩) Q) ⟨f,H⟩:=by
 simp only [qdN,dw]
 rw [quK,Option.bind_assoc]
 congr 1
 funext p
 obtain ⟨e,s'⟩:=p
 cases e<;>rfl
theorem qzf (id ops):dw C lo (.region id ⟨ops⟩ false) Q s=rN C ⟨ops⟩ ops s (qrh lo Q):=by
 simp only [dw,qh4,rN,Bool.false_eq_true,if_false,Option.bind_assoc,Option.bind_some];rfl
theorem qzg (id ops):dw C lo (.region id ⟨ops⟩ true) Q s=rD C ⟨ops⟩ ops s [] (qrh lo Q):=by
 simp only [dw,qh4,rD,if_true,Option.bind_assoc,Option.bind_some];rfl
theorem qri:qrh lo Q ⟨f,H⟩=Q .normal ⟨qdo lo f,H⟩:=rfl
theorem qrj (t:Nat) (v:AVal):qdo lo (upd f t v)=if (lo >>> t) % 2=1 then qdo lo f else upd (qdo lo f) t v:=by
 funext i
 unfold qdo upd
 by_cases hi:i=t
 ·subst hi
  by_cases h:(lo >>> i) % 2=1<;>simp [h]
 ·by_cases h:(lo >>> t) % 2=1<;>simp [h,hi]
theorem qlN:qdo lo (qdo lo f)=qdo lo f:=by
 funext i;unfold qdo;split<;>rfl
theorem quW (t:Nat):qdo lo f t=if (lo >>> t) % 2=1 then .junk else f t:=rfl
theorem qoG:qdo lo (fun _=>AVal.junk)=fun _=>AVal.junk:=by
 funext i;unfold qdo;split<;>rfl
theorem qzh (n:St→Option Res):qiK n Q .normal s=n s:=rfl
theorem qzi (n:St→Option Res):qiK n Q .ret s=Q .ret s:=rfl
theorem qzj (n:St→Option Res) (i):qiK n Q (.exit i) s=Q (.exit i) s:=rfl
theorem qCq (id):qCk id Q .normal s=Q .normal s:=rfl
theorem qCr (id):qCk id Q .ret s=Q .ret s:=rfl
theorem qCs (id i):qCk id Q (.exit i) s=if i=id then Q .normal s else Q (.exit i) s:=rfl
end
section
variable (C:Cf) (ops:Array Oper) (f:Nat→AVal) (H:qac)
theorem qCt (s K):rN C ops [] s K=K s:=rfl
theorem qrk (o l K):rN C ops (o::l) ⟨f,H⟩ K=@qaO f H ⟨(C,ops,o,fun s' _ _=>rN C ops l s' K)⟩:=by
 simp only [rN,qoD,qaO,Option.bind_assoc]
theorem qCu (s tr K):rD C ops [] s tr K=@qF3 ⟨(ops,tr,K s)⟩:=by
 simp only [rD,qng,qF3,gu];split<;>rfl
theorem qzk (o l tr K):rD C ops (o::l) ⟨f,H⟩ tr K=@qaO f H ⟨(C,ops,o,fun s' rd wr=>rD C ops l s' (tr++[(rd,wr)]) K)⟩:=by
 simp only [rD,qng,qaO,Option.bind_assoc]
theorem qzl (tr K) (h:qeh ops tr=true):@qF3 ⟨(ops,tr,K)⟩=K:=by simp [qF3,h]
theorem qaF (d op ty pos af K):@qaO f H ⟨(C,ops,⟨d,op,ty,pos,af,none⟩,K)⟩=@kB _ _ (opS C.E C.M (fp C) op d (ev C.E.Γ f) H) ⟨fun q=>K ⟨qaC f d q.1,q.2.1⟩ q.2.2.1 q.2.2.2⟩:=by
 simp only [qaO,qfs,Option.bind_assoc,kB];rfl
theorem qbL (d op ty pos af j K):@qaO f H ⟨(C,ops,⟨d,op,ty,pos,af,some (j,true)⟩,K)⟩=@kB _ _ (gd ops j) ⟨fun e=>@kU _ (f e)
  ⟨(@kB _ _ (opS C.E C.M (fp C) op d (ev C.E.Γ f) H) ⟨fun q=>K ⟨qaC f d q.1,q.2.1⟩ q.2.2.1 q.2.2.2⟩,K ⟨qaC f d (.sc undef),H⟩ [] [],K ⟨qaC f d (.sc undef),H⟩ [] [])⟩⟩:=by
 show ((((ops[j]?).bind (·.dst)).bind _).bind _)=((ops[j]?).bind (·.dst)).bind _
 rw [Option.bind_assoc]
 congr 1;funext e;unfold kU
 simp only
 cases f e<;>try rfl
 case bool t=>cases t<;>simp [kB,Option.bind_assoc]
 case sc x=>
  cases x<;>try rfl
  rename_i arr
  obtain ⟨l⟩:=arr
  cases l<;>rfl
theorem qbx (d op ty pos af j K):@qaO f H ⟨(C,ops,⟨d,op,ty,pos,af,some (j,false)⟩,K)⟩=@kB _ _ (gd ops j) ⟨fun e=>@kU _ (f e)
  ⟨(K ⟨qaC f d (.sc undef),H⟩ [] [],@kB _ _ (opS C.E C.M (fp C) op d (ev C.E.Γ f) H) ⟨fun q=>K ⟨qaC f d q.1,q.2.1⟩ q.2.2.1 q.2.2.2⟩,K ⟨qaC f d (.sc undef),H⟩ [] [])⟩⟩:=by
 show ((((ops[j]?).bind (·.dst)).bind _).bind _)=((ops[j]?).bind (·.dst)).bind _
 rw [Option.bind_assoc]
 congr 1;funext e;unfold kU
 simp only
 cases f e<;>try rfl
 case bool t=>cases t<;>simp [kB,Option.bind_assoc]
 case sc x=>
  cases x<;>try rfl
  rename_i arr
  obtain ⟨l⟩:=arr
  cases l<;>rfl
def kC {β:Type} (m:Nat) [K:Hold (Option β×Option β)]:Option β:=if m=0 then K.val.1 else K.val.2
theorem qzm {β:Type} (a b:Option β):@kC _ 0 ⟨(a,b)⟩=a:=rfl
theorem qzn {β:Type} (n:Nat) (a b:Option β):@kC _ (n+1) ⟨(a,b)⟩=b:=rfl
theorem qau {op:Op} (h:∀ρ,qCa C.M op ρ=none) (d ρ H) {β:Type} (K:Stp→Option β):@kB _ _ (opS C.E C.M (fp C) op d ρ H) ⟨K⟩=@kB _ _ (opE C.E C.M (fn C) op d ρ H) ⟨fun q=>K (q.1,H.setAll q.2.2,q.2.1,q.2.2.map (·.1))⟩:=by
 unfold opS
 rw [h ρ]
 simp only [kB,Option.bind_assoc,Option.bind_some]
 rfl
theorem qiL (g args ts d ρ H) {β:Type} (K:Stp→Option β):@kB _ _ (opS C.E C.M (fp C) (.call ⟨.value g,⟨args⟩,ts⟩) d ρ H) ⟨K⟩=@kF _ (ρ g) ⟨fun h first cap=>@kC _ (qi5 C.M.inls h)
  ⟨(@kB _ _ (qeu C.E C.M (ghO C.M.gh d ρ (fn C)) h (first++args.map ρ++cap) (shD C.M.base d) H) ⟨fun q=>K (q.1,H.setAll q.2.2,q.2.1,q.2.2.map (·.1))⟩,
   @kG _ (C.E.P.inFn h=true) _ ⟨@kB _ _ (il C h (first++args.map ρ++cap) H) ⟨fun r=>@kC _ (qi5 C.M.inls h % 2) ⟨(K (r.1,r.2,[ALL],[ALL]),@kG _ (r.2=H) (Classical.propDecidable _) ⟨K (r.1,H,[ALL],[])⟩)⟩⟩⟩)⟩⟩:=by
 unfold opS qCa
 simp only
 cases hg:ρ g<;>try (simp only [kF,opE,hg,kB];rfl)
 rename_i h first cap
 cases h<;>try (simp only [kF,opE,hg,kB];rfl)
 rename_i h
 simp only [kF,kC]
 by_cases hz:qi5 C.M.inls h=0
 ·simp only [hz,if_true,opE,hg,kB,Option.bind_assoc,Option.bind_some]
  rfl
 ·by_cases hgo:C.E.P.inFn h=true
  ·simp only [hz,if_false,kB,kG,gu,if_pos hgo,Option.bind_assoc,Option.bind_some]
   refine congrArg (fun F=>Option.bind _ F) (funext fun r=>?_)
   unfold qyY kC
   by_cases hm:qi5 C.M.inls h % 2=0
   ·simp only [hm,if_true,Option.bind_some]
   ·simp only [hm,if_false]
    unfold gu kG
    by_cases hr:r.2=H
    ·simp only [hr,if_true,Option.bind_some]
    ·simp only [hr,if_false,Option.bind_none]
  ·simp only [hz,if_false,kB,kG,gu,if_neg hgo,Option.bind_none]
theorem qzo (d x ty pos af K):@qaO f H ⟨(C,ops,⟨d,.move x,ty,pos,af,none⟩,K)⟩=@kB _ _ (opE C.E C.M (fn C) (.move x) d (ev C.E.Γ f) H) ⟨fun q=>K ⟨qaC f d q.1,H.setAll q.2.2⟩ q.2.1 (q.2.2.map (·.1))⟩:=by
 rw [qaF,qau C (fun _=>rfl)]
theorem qzp (d x ty pos af j K):@qaO f H ⟨(C,ops,⟨d,.move x,ty,pos,af,some (j,true)⟩,K)⟩=@kB _ _ (gd ops j) ⟨fun e=>@kU _ (f e) ⟨(@kB _ _ (opE C.E C.M (fn C) (.move x) d (ev C.E.Γ f) H) ⟨fun q=>K ⟨qaC f d q.1,H.setAll q.2.2⟩ q.2.1 (q.2.2.map (·.1))⟩,K ⟨qaC f d (.sc undef),H⟩ [] [],K ⟨qaC f d (.sc undef),H⟩ [] [])⟩⟩:=by
 rw [qbL];first | rfl | (congr;funext e;rw [qau C (fun _=>rfl)])
theorem qzq (d x ty pos af j K):@qaO f H ⟨(C,ops,⟨d,.move x,ty,pos,af,some (j,false)⟩,K)⟩=@kB _ _ (gd ops j) ⟨fun e=>@kU _ (f e) ⟨(K ⟨qaC f d (.sc undef),H⟩ [] [],@kB _ _ (opE C.E C.M (fn C) (.move x) d (ev C.E.Γ f) H) ⟨fun q=>K ⟨qaC f d q.1,H.setAll q.2.2⟩ q.2.1 (q.2.2.map (·.1))⟩,K ⟨qaC f d (.sc undef),H⟩ [] [])⟩⟩:=by
 rw [qbx];first | rfl | (congr;funext e;rw [qau C (fun _=>rfl)])
theorem qrl (d x ty pos af K):@qaO f H ⟨(C,ops,⟨d,.assign x,ty,pos,af,none⟩,K)⟩=@kB _ _ (opE C.E C.M (fn C) (.assign x) d (ev C.E.Γ f) H) ⟨fun q=>K ⟨qaC f d q.1,H.setAll q.2.2⟩ q.2.1 (q.2.2.map (·.1))⟩:=by
 rw [qaF,qau C (fun _=>rfl)]
theorem qzr (d x y z ty pos af K):@qaO f H ⟨(C,ops,⟨d,.pick x y z,ty,pos,af,none⟩,K)⟩=@kB _ _ (opE C.E C.M (fn C) (.pick x y z) d (ev C.E.Γ f) H) ⟨fun q=>K ⟨qaC f d q.1,H.setAll q.2.2⟩ q.2.1 (q.2.2.map (·.1))⟩:=by
 rw [qaF,qau C (fun _=>rfl)]
theorem qzs (d x y z ty pos af j K):@qaO f H ⟨(C,ops,⟨d,.pick x y z,ty,pos,af,some (j,true)⟩,K)⟩=@kB _ _ (gd ops j) ⟨fun e=>@kU _ (f e) ⟨(@kB _ _ (opE C.E C.M (fn C) (.pick x y z) d (ev C.E.Γ f) H) ⟨fun q=>K ⟨qaC f d q.1,H.setAll q.2.2⟩ q.2.1 (q.2.2.map (·.1))⟩,K ⟨qaC f d (.sc undef),H⟩ [] [],K ⟨qaC f d (.sc undef),H⟩ [] [])⟩⟩:=by
 rw [qbL];first | rfl | (congr;funext e;rw [qau C (fun _=>rfl)])
theorem qzt (d x y z ty pos af j K):@qaO f H ⟨(C,ops,⟨d,.pick x y z,ty,pos,af,some (j,false)⟩,K)⟩=@kB _ _ (gd ops j) ⟨fun e=>@kU _ (f e) ⟨(K ⟨qaC f d (.sc undef),H⟩ [] [],@kB _ _ (opE C.E C.M (fn C) (.pick x y z) d (ev C.E.Γ f) H) ⟨fun q=>K ⟨qaC f d q.1,H.setAll q.2.2⟩ q.2.1 (q.2.2.map (·.1))⟩,K ⟨qaC f d (.sc undef),H⟩ [] [])⟩⟩:=by
 rw [qbx];first | rfl | (congr;funext e;rw [qau C (fun _=>rfl)])
theorem quX (d t ty pos af K):@qaO f H ⟨(C,ops,⟨d,.alloc t,ty,pos,af,none⟩,K)⟩=@kB _ _ (opE C.E C.M (fn C) (.alloc t) d (ev C.E.Γ f) H) ⟨fun q=>K ⟨qaC f d q.1,H.setAll q.2.2⟩ q.2.1 (q.2.2.map (·.1))⟩:=by
 rw [qaF,qau C (fun _=>rfl)]
theorem qCv (d t x ty pos af K):@qaO f H ⟨(C,ops,⟨d,.box t x,ty,pos,af,none⟩,K)⟩=@kB _ _ (opE C.E C.M (fn C) (.box t x) d (ev C.E.Γ f) H) ⟨fun q=>K ⟨qaC f d q.1,H.setAll q.2.2⟩ q.2.1 (q.2.2.map (·.1))⟩:=by
 rw [qaF,qau C (fun _=>rfl)]
theorem quY (d t l ty pos af K):@qaO f H ⟨(C,ops,⟨d,.build t l,ty,pos,af,none⟩,K)⟩=@kB _ _ (opE C.E C.M (fn C) (.build t l) d (ev C.E.Γ f) H) ⟨fun q=>K ⟨qaC f d q.1,H.setAll q.2.2⟩ q.2.1 (q.2.2.map (·.1))⟩:=by
 rw [qaF,qau C (fun _=>rfl)]
theorem qiM (d t n l ty pos af K):@qaO f H ⟨(C,ops,⟨d,.buildSlice t n l,ty,pos,af,none⟩,K)⟩=@kB _ _ (opE C.E C.M (fn C) (.buildSlice t n l) d (ev C.E.Γ f) H) ⟨fun q=>K ⟨qaC f d q.1,H.setAll q.2.2⟩ q.2.1 (q.2.2.map (·.1))⟩:=by
 rw [qaF,qau C (fun _=>rfl)]
theorem qzu (d t x ty pos af K):@qaO f H ⟨(C,ops,⟨d,.load t x,ty,pos,af,none⟩,K)⟩=@kB _ _ (opE C.E C.M (fn C) (.load t x) d (ev C.E.Γ f) H) ⟨fun q=>K ⟨qaC f d q.1,H.setAll q.2.2⟩ q.2.1 (q.2.2.map (·.1))⟩:=by
 rw [qaF,qau C (fun _=>rfl)]
theorem qzv (d t x ty pos af j K):@qaO f H ⟨(C,ops,⟨d,.load t x,ty,pos,af,some (j,true)⟩,K)⟩=@kB _ _ (gd ops j) ⟨fun e=>@kU _ (f e) ⟨(@kB _ _ (opE C.E C.M (fn C) (.load t x) d (ev C.E.Γ f) H) ⟨fun q=>K ⟨qaC f d q.1,H.setAll q.2.2⟩ q.2.1 (q.2.2.map (·.1))⟩,K ⟨qaC f d (.sc undef),H⟩ [] [],K ⟨qaC f d (.sc undef),H⟩ [] [])⟩⟩:=by
 rw [qbL];first | rfl | (congr;funext e;rw [qau C (fun _=>rfl)])
theorem qzw (d t x ty pos af j K):@qaO f H ⟨(C,ops,⟨d,.load t x,ty,pos,af,some (j,false)⟩,K)⟩=@kB _ _ (gd ops j) ⟨fun e=>@kU _ (f e) ⟨(K ⟨qaC f d (.sc undef),H⟩ [] [],@kB _ _ (opE C.E C.M (fn C) (.load t x) d (ev C.E.Γ f) H) ⟨fun q=>K ⟨qaC f d q.1,H.setAll q.2.2⟩ q.2.1 (q.2.2.map (·.1))⟩,K ⟨qaC f d (.sc undef),H⟩ [] [])⟩⟩:=by
 rw [qbx];first | rfl | (congr;funext e;rw [qau C (fun _=>rfl)])
theorem quZ (d t x y ty pos af K):@qaO f H ⟨(C,ops,⟨d,.store t x y,ty,pos,af,none⟩,K)⟩=@kB _ _ (opE C.E C.M (fn C) (.store t x y) d (ev C.E.Γ f) H) ⟨fun q=>K ⟨qaC f d q.1,H.setAll q.2.2⟩ q.2.1 (q.2.2.map (·.1))⟩:=by
 rw [qaF,qau C (fun _=>rfl)]
theorem qlO (d x ty pos af K):@qaO f H ⟨(C,ops,⟨d,.nilCheck x,ty,pos,af,none⟩,K)⟩=@kB _ _ (opE C.E C.M (fn C) (.nilCheck x) d (ev C.E.Γ f) H) ⟨fun q=>K ⟨qaC f d q.1,H.setAll q.2.2⟩ q.2.1 (q.2.2.map (·.1))⟩:=by
 rw [qaF,qau C (fun _=>rfl)]
theorem qlP (d x ty pos af j K):@qaO f H ⟨(C,ops,⟨d,.nilCheck x,ty,pos,af,some (j,true)⟩,K)⟩=@kB _ _ (gd ops j) ⟨fun e=>@kU _ (f e) ⟨(@kB _ _ (opE C.E C.M (fn C) (.nilCheck x) d (ev C.E.Γ f) H) ⟨fun q=>K ⟨qaC f d q.1,H.setAll q.2.2⟩ q.2.1 (q.2.2.map (·.1))⟩,K ⟨qaC f d (.sc undef),H⟩ [] [],K ⟨qaC f d (.sc undef),H⟩ [] [])⟩⟩:=by
 rw [qbL];first | rfl | (congr;funext e;rw [qau C (fun _=>rfl)])
theorem qlQ (d x ty pos af j K):@qaO f H ⟨(C,ops,⟨d,.nilCheck x,ty,pos,af,some (j,false)⟩,K)⟩=@kB _ _ (gd ops j) ⟨fun e=>@kU _ (f e) ⟨(K ⟨qaC f d (.sc undef),H⟩ [] [],@kB _ _ (opE C.E C.M (fn C) (.nilCheck x) d (ev C.E.Γ f) H) ⟨fun q=>K ⟨qaC f d q.1,H.setAll q.2.2⟩ q.2.1 (q.2.2.map (·.1))⟩,K ⟨qaC f d (.sc undef),H⟩ [] [])⟩⟩:=by
 rw [qbx];first | rfl | (congr;funext e;rw [qau C (fun _=>rfl)])
theorem qu0 (d o t x y u ty pos af K):@qaO f H ⟨(C,ops,⟨d,.binOp o t x y u,ty,pos,af,none⟩,K)⟩=@kB _ _ (opE C.E C.M (fn C) (.binOp o t x y u) d (ev C.E.Γ f) H) ⟨fun q=>K ⟨qaC f d q.1,H.setAll q.2.2⟩ q.2.1 (q.2.2.map (·.1))⟩:=by
 rw [qaF,qau C (fun _=>rfl)]
theorem qu1 (d o t x y u ty pos af j K):@qaO f H ⟨(C,ops,⟨d,.binOp o t x y u,ty,pos,af,some (j,true)⟩,K)⟩=@kB _ _ (gd ops j) ⟨fun e=>@kU _ (f e) ⟨(@kB _ _ (opE C.E C.M (fn C) (.binOp o t x y u) d (ev C.E.Γ f) H) ⟨fun q=>K ⟨qaC f d q.1,H.setAll q.2.2⟩ q.2.1 (q.2.2.map (·.1))⟩,K ⟨qaC f d (.sc undef),H⟩ [] [],K ⟨qaC f d (.sc undef),H⟩ [] [])⟩⟩:=by
 rw [qbL];first | rfl | (congr;funext e;rw [qau C (fun _=>rfl)])
theorem qu2 (d o t x y u ty pos af j K):@qaO f H ⟨(C,ops,⟨d,.binOp o t x y u,ty,pos,af,some (j,false)⟩,K)⟩=@kB _ _ (gd ops j) ⟨fun e=>@kU _ (f e) ⟨(K ⟨qaC f d (.sc undef),H⟩ [] [],@kB _ _ (opE C.E C.M (fn C) (.binOp o t x y u) d (ev C.E.Γ f) H) ⟨fun q=>K ⟨qaC f d q.1,H.setAll q.2.2⟩ q.2.1 (q.2.2.map (·.1))⟩,K ⟨qaC f d (.sc undef),H⟩ [] [])⟩⟩:=by
 rw [qbx];first | rfl | (congr;funext e;rw [qau C (fun _=>rfl)])
theorem qzx (d o t x ty pos af K):@qaO f H ⟨(C,ops,⟨d,.unOp o t x,ty,pos,af,none⟩,K)⟩=@kB _ _ (opE C.E C.M (fn C) (.unOp o t x) d (ev C.E.Γ f) H) ⟨fun q=>K ⟨qaC f d q.1,H.setAll q.2.2⟩ q.2.1 (q.2.2.map (·.1))⟩:=by
 rw [qaF,qau C (fun _=>rfl)]
theorem qzy (d o t x ty pos af j K):@qaO f H ⟨(C,ops,⟨d,.unOp o t x,ty,pos,af,some (j,true)⟩,K)⟩=@kB _ _ (gd ops j) ⟨fun e=>@kU _ (f e) ⟨(@kB _ _ (opE C.E C.M (fn C) (.unOp o t x) d (ev C.E.Γ f) H) ⟨fun q=>K ⟨qaC f d q.1,H.setAll q.2.2⟩ q.2.1 (q.2.2.map (·.1))⟩,K ⟨qaC f d (.sc undef),H⟩ [] [],K ⟨qaC f d (.sc undef),H⟩ [] [])⟩⟩:=by
 rw [qbL];first | rfl | (congr;funext e;rw [qau C (fun _=>rfl)])
theorem qzz (d o t x ty pos af j K):@qaO f H ⟨(C,ops,⟨d,.unOp o t x,ty,pos,af,some (j,false)⟩,K)⟩=@kB _ _ (gd ops j) ⟨fun e=>@kU _ (f e) ⟨(K ⟨qaC f d (.sc undef),H⟩ [] [],@kB _ _ (opE C.E C.M (fn C) (.unOp o t x) d (ev C.E.Γ f) H) ⟨fun q=>K ⟨qaC f d q.1,H.setAll q.2.2⟩ q.2.1 (q.2.2.map (·.1))⟩,K ⟨qaC f d (.sc undef),H⟩ [] [])⟩⟩:=by
 rw [qbx];first | rfl | (congr;funext e;rw [qau C (fun _=>rfl)])
theorem qCw (d t x ty pos af K):@qaO f H ⟨(C,ops,⟨d,.sliceToArrayPointer t x,ty,pos,af,none⟩,K)⟩=@kB _ _ (opE C.E C.M (fn C) (.sliceToArrayPointer t x) d (ev C.E.Γ f) H) ⟨fun q=>K ⟨qaC f d q.1,H.setAll q.2.2⟩ q.2.1 (q.2.2.map (·.1))⟩:=by
 rw [qaF,qau C (fun _=>rfl)]
theorem qoH (d t u x ty pos af K):@qaO f H ⟨(C,ops,⟨d,.convert t u x,ty,pos,af,none⟩,K)⟩=@kB _ _ (opE C.E C.M (fn C) (.convert t u x) d (ev C.E.Γ f) H) ⟨fun q=>K ⟨qaC f d q.1,H.setAll q.2.2⟩ q.2.1 (q.2.2.map (·.1))⟩:=by
 rw [qaF,qau C (fun _=>rfl)]
theorem qlR (d g a b ty pos af K):@qaO f H ⟨(C,ops,⟨d,.makeFunc g a b,ty,pos,af,none⟩,K)⟩=@kB _ _ (opE C.E C.M (fn C) (.makeFunc g a b) d (ev C.E.Γ f) H) ⟨fun q=>K ⟨qaC f d q.1,H.setAll q.2.2⟩ q.2.1 (q.2.2.map (·.1))⟩:=by
 rw [qaF,qau C (fun _=>rfl)]
theorem qj4 (d t x y ty pos af K):@qaO f H ⟨(C,ops,⟨d,.makeSlice t x y,ty,pos,af,none⟩,K)⟩=@kB _ _ (opE C.E C.M (fn C) (.makeSlice t x y) d (ev C.E.Γ f) H) ⟨fun q=>K ⟨qaC f d q.1,H.setAll q.2.2⟩ q.2.1 (q.2.2.map (·.1))⟩:=by
 rw [qaF,qau C (fun _=>rfl)]
theorem qu3 (d t x a b c ty pos af K):@qaO f H ⟨(C,ops,⟨d,.slice t x a b c,ty,pos,af,none⟩,K)⟩=@kB _ _ (opE C.E C.M (fn C) (.slice t x a b c) d (ev C.E.Γ f) H) ⟨fun q=>K ⟨qaC f d q.1,H.setAll q.2.2⟩ q.2.1 (q.2.2.map (·.1))⟩:=by
 rw [qaF,qau C (fun _=>rfl)]
theorem qj5 (d t x n ty pos af K):@qaO f H ⟨(C,ops,⟨d,.fieldAddr t x n,ty,pos,af,none⟩,K)⟩=@kB _ _ (opE C.E C.M (fn C) (.fieldAddr t x n) d (ev C.E.Γ f) H) ⟨fun q=>K ⟨qaC f d q.1,H.setAll q.2.2⟩ q.2.1 (q.2.2.map (·.1))⟩:=by
 rw [qaF,qau C (fun _=>rfl)]
theorem qj6 (d t x n ty pos af j K):@qaO f H ⟨(C,ops,⟨d,.fieldAddr t x n,ty,pos,af,some (j,true)⟩,K)⟩=@kB _ _ (gd ops j) ⟨fun e=>@kU _ (f e) ⟨(@kB _ _ (opE C.E C.M (fn C) (.fieldAddr t x n) d (ev C.E.Γ f) H) ⟨fun q=>K ⟨qaC f d q.1,H.setAll q.2.2⟩ q.2.1 (q.2.2.map (·.1))⟩,K ⟨qaC f d (.sc undef),H⟩ [] [],K ⟨qaC f d (.sc undef),H⟩ [] [])⟩⟩:=by
 rw [qbL];first | rfl | (congr;funext e;rw [qau C (fun _=>rfl)])
theorem qj7 (d t x n ty pos af j K):@qaO f H ⟨(C,ops,⟨d,.fieldAddr t x n,ty,pos,af,some (j,false)⟩,K)⟩=@kB _ _ (gd ops j) ⟨fun e=>@kU _ (f e) ⟨(K ⟨qaC f d (.sc undef),H⟩ [] [],@kB _ _ (opE C.E C.M (fn C) (.fieldAddr t x n) d (ev C.E.Γ f) H) ⟨fun q=>K ⟨qaC f d q.1,H.setAll q.2.2⟩ q.2.1 (q.2.2.map (·.1))⟩,K ⟨qaC f d (.sc undef),H⟩ [] [])⟩⟩:=by
 rw [qbx];first | rfl | (congr;funext e;rw [qau C (fun _=>rfl)])
theorem qu4 (d t x n ty pos af K):@qaO f H ⟨(C,ops,⟨d,.field t x n,ty,pos,af,none⟩,K)⟩=@kB _ _ (opE C.E C.M (fn C) (.field t x n) d (ev C.E.Γ f) H) ⟨fun q=>K ⟨qaC f d q.1,H.setAll q.2.2⟩ q.2.1 (q.2.2.map (·.1))⟩:=by
 rw [qaF,qau C (fun _=>rfl)]
theorem qj8 (d t x i ty pos af K):@qaO f H ⟨(C,ops,⟨d,.indexAddr t x i,ty,pos,af,none⟩,K)⟩=@kB _ _ (opE C.E C.M (fn C) (.indexAddr t x i) d (ev C.E.Γ f) H) ⟨fun q=>K ⟨qaC f d q.1,H.setAll q.2.2⟩ q.2.1 (q.2.2.map (·.1))⟩:=by
 rw [qaF,qau C (fun _=>rfl)]
theorem qj9 (d t x i ty pos af j K):@qaO f H ⟨(C,ops,⟨d,.indexAddr t x i,ty,pos,af,some (j,true)⟩,K)⟩=@kB _ _ (gd ops j) ⟨fun e=>@kU _ (f e) ⟨(@kB _ _ (opE C.E C.M (fn C) (.indexAddr t x i) d (ev C.E.Γ f) H) ⟨fun q=>K ⟨qaC f d q.1,H.setAll q.2.2⟩ q.2.1 (q.2.2.map (·.1))⟩,K ⟨qaC f d (.sc undef),H⟩ [] [],K ⟨qaC f d (.sc undef),H⟩ [] [])⟩⟩:=by
 rw [qbL];first | rfl | (congr;funext e;rw [qau C (fun _=>rfl)])
theorem qka (d t x i ty pos af j K):@qaO f H ⟨(C,ops,⟨d,.indexAddr t x i,ty,pos,af,some (j,false)⟩,K)⟩=@kB _ _ (gd ops j) ⟨fun e=>@kU _ (f e) ⟨(K ⟨qaC f d (.sc undef),H⟩ [] [],@kB _ _ (opE C.E C.M (fn C) (.indexAddr t x i) d (ev C.E.Γ f) H) ⟨fun q=>K ⟨qaC f d q.1,H.setAll q.2.2⟩ q.2.1 (q.2.2.map (·.1))⟩,K ⟨qaC f d (.sc undef),H⟩ [] [])⟩⟩:=by
 rw [qbx];first | rfl | (congr;funext e;rw [qau C (fun _=>rfl)])
theorem qu5 (d t x i ty pos af K):@qaO f H ⟨(C,ops,⟨d,.index t x i,ty,pos,af,none⟩,K)⟩=@kB _ _ (opE C.E C.M (fn C) (.index t x i) d (ev C.E.Γ f) H) ⟨fun q=>K ⟨qaC f d q.1,H.setAll q.2.2⟩ q.2.1 (q.2.2.map (·.1))⟩:=by
 rw [qaF,qau C (fun _=>rfl)]
theorem qu6 (d t x i ty pos af j K):@qaO f H ⟨(C,ops,⟨d,.index t x i,ty,pos,af,some (j,false)⟩,K)⟩=@kB _ _ (gd ops j) ⟨fun e=>@kU _ (f e) ⟨(K ⟨qaC f d (.sc undef),H⟩ [] [],@kB _ _ (opE C.E C.M (fn C) (.index t x i) d (ev C.E.Γ f) H) ⟨fun q=>K ⟨qaC f d q.1,H.setAll q.2.2⟩ q.2.1 (q.2.2.map (·.1))⟩,K ⟨qaC f d (.sc undef),H⟩ [] [])⟩⟩:=by
 rw [qbx];first | rfl | (congr;funext e;rw [qau C (fun _=>rfl)])
theorem qoI (d x n ty pos af K):@qaO f H ⟨(C,ops,⟨d,.extract x n,ty,pos,af,none⟩,K)⟩=@kB _ _ (opE C.E C.M (fn C) (.extract x n) d (ev C.E.Γ f) H) ⟨fun q=>K ⟨qaC f d q.1,H.setAll q.2.2⟩ q.2.1 (q.2.2.map (·.1))⟩:=by
 rw [qaF,qau C (fun _=>rfl)]
theorem qoJ (d b a t ty pos af K):@qaO f H ⟨(C,ops,⟨d,.call ⟨.builtin b,a,t⟩,ty,pos,af,none⟩,K)⟩=@kB _ _ (opE C.E C.M (fn C) (.call ⟨.builtin b,a,t⟩) d (ev C.E.Γ f) H) ⟨fun q=>K ⟨qaC f d q.1,H.setAll q.2.2⟩ q.2.1 (q.2.2.map (·.1))⟩:=by
 rw [qaF,qau C (fun _=>rfl)]
theorem qoK (d b a t ty pos af j K):@qaO f H ⟨(C,ops,⟨d,.call ⟨.builtin b,a,t⟩,ty,pos,af,some (j,true)⟩,K)⟩=@kB _ _ (gd ops j) ⟨fun e=>@kU _ (f e) ⟨(@kB _ _ (opE C.E C.M (fn C) (.call ⟨.builtin b,a,t⟩) d (ev C.E.Γ f) H) ⟨fun q=>K ⟨qaC f d q.1,H.setAll q.2.2⟩ q.2.1 (q.2.2.map (·.1))⟩,K ⟨qaC f d (.sc undef),H⟩ [] [],K ⟨qaC f d (.sc undef),H⟩ [] [])⟩⟩:=by
 rw [qbL];first | rfl | (congr;funext e;rw [qau C (fun _=>rfl)])
theorem qoL (d b a t ty pos af j K):@qaO f H ⟨(C,ops,⟨d,.call ⟨.builtin b,a,t⟩,ty,pos,af,some (j,false)⟩,K)⟩=@kB _ _ (gd ops j) ⟨fun e=>@kU _ (f e) ⟨(K ⟨qaC f d (.sc undef),H⟩ [] [],@kB _ _ (opE C.E C.M (fn C) (.call ⟨.builtin b,a,t⟩) d (ev C.E.Γ f) H) ⟨fun q=>K ⟨qaC f d q.1,H.setAll q.2.2⟩ q.2.1 (q.2.2.map (·.1))⟩,K ⟨qaC f d (.sc undef),H⟩ [] [])⟩⟩:=by
 rw [qbx];first | rfl | (congr;funext e;rw [qau C (fun _=>rfl)])
theorem qzA (d g args ts ty pos af K):@qaO f H ⟨(C,ops,⟨d,.call ⟨.value g,⟨args⟩,ts⟩,ty,pos,af,none⟩,K)⟩=@kF _ (ev C.E.Γ f g) ⟨fun h first cap=>@kC _ (qi5 C.M.inls h) ⟨(@kB _ _ (qeu C.E C.M (ghO C.M.gh d (ev C.E.Γ f) (fn C)) h (first++args.map (ev C.E.Γ f)++cap) (shD C.M.base d) H) ⟨fun q=>K ⟨qaC f d q.1,H.setAll q.2.2⟩ q.2.1 (q.2.2.map (·.1))⟩,@kG _ (C.E.P.inFn h=true) _ ⟨@kB _ _ (il C h (first++args.map (ev C.E.Γ f)++cap) H) ⟨fun r=>@kC _ (qi5 C.M.inls h % 2) ⟨(K ⟨qaC f d r.1,r.2⟩ [ALL] [ALL],@kG _ (r.2=H) (Classical.propDecidable _) ⟨K ⟨qaC f d r.1,H⟩ [ALL] []⟩)⟩⟩⟩)⟩⟩:=by
 rw [qaF,qiL]
theorem qzB (d g args ts ty pos af j K):@qaO f H ⟨(C,ops,⟨d,.call ⟨.value g,⟨args⟩,ts⟩,ty,pos,af,some (j,true)⟩,K)⟩=@kB _ _ (gd ops j) ⟨fun e=>@kU _ (f e) ⟨(@kF _ (ev C.E.Γ f g) ⟨fun h first cap=>@kC _ (qi5 C.M.inls h) ⟨(@kB _ _ (qeu C.E C.M (ghO C.M.gh d (ev C.E.Γ f) (fn C)) h (first++args.map (ev C.E.Γ f)++cap) (shD C.M.base d) H) ⟨fun q=>K ⟨qaC f d q.1,H.setAll q.2.2⟩ q.2.1 (q.2.2.map (·.1))⟩,@kG _ (C.E.P.inFn h=true) _ ⟨@kB _ _ (il C h (first++args.map (ev C.E.Γ f)++cap) H) ⟨fun r=>@kC _ (qi5 C.M.inls h % 2) ⟨(K ⟨qaC f d r.1,r.2⟩ [ALL] [ALL],@kG _ (r.2=H) (Classical.propDecidable _) ⟨K ⟨qaC f d r.1,H⟩ [ALL] []⟩)⟩⟩⟩)⟩⟩,K ⟨qaC f d (.sc undef),H⟩ [] [],K ⟨qaC f d (.sc undef),H⟩ [] [])⟩⟩:=by
 rw [qbL];congr;funext e;rw [qiL]
theorem qzC (d g args ts ty pos af j K):@qaO f H ⟨(C,ops,⟨d,.call ⟨.value g,⟨args⟩,ts⟩,ty,pos,af,some (j,false)⟩,K)⟩=@kB _ _ (gd ops j) ⟨fun e=>@kU _ (f e) ⟨(K ⟨qaC f d (.sc undef),H⟩ [] [],@kF _ (ev C.E.Γ f g) ⟨fun h first cap=>@kC _ (qi5 C.M.inls h) ⟨(@kB _ _ (qeu C.E C.M (ghO C.M.gh d (ev C.E.Γ f) (fn C)) h (first++args.map (ev C.E.Γ f)++cap) (shD C.M.base d) H) ⟨fun q=>K ⟨qaC f d q.1,H.setAll q.2.2⟩ q.2.1 (q.2.2.map (·.1))⟩,@kG _ (C.E.P.inFn h=true) _ ⟨@kB _ _ (il C h (first++args.map (ev C.E.Γ f)++cap) H) ⟨fun r=>@kC _ (qi5 C.M.inls h % 2) ⟨(K ⟨qaC f d r.1,r.2⟩ [ALL] [ALL],@kG _ (r.2=H) (Classical.propDecidable _) ⟨K ⟨qaC f d r.1,H⟩ [ALL] []⟩)⟩⟩⟩)⟩⟩,K ⟨qaC f d (.sc undef),H⟩ [] [])⟩⟩:=by
 rw [qbx];congr;funext e;rw [qiL]
end
theorem qal {α β:Type} (p:Prop) [Decidable p] (x:Option α) (K:α→Option β):(if p then x else none).bind K=if p then x.bind K else none:=by split<;>rfl
section
variable {β:Type} (E:Env) (M:Mds) (O:Orc) (d:Option Tmp) (ρ:Operand→AVal) (H:qac) (K:Out→Option β)
theorem qCx (x):@kB _ _ (opE E M O (.move x) d ρ H) ⟨K⟩=K (ρ x,[],[]):=rfl
theorem qu7 (x):@kB _ _ (opE E M O (.assign x) d ρ H) ⟨K⟩=@kB _ _ (qyX M d H (ρ x)) ⟨K⟩:=rfl
theorem qCy (c a b):@kB _ _ (opE E M O (.pick c a b) d ρ H) ⟨K⟩=@kT _ (ρ c) ⟨fun t=>K (if t=true then ρ a else ρ b,[],[])⟩:=by
 simp only [opE,kB,kT];cases ρ c<;>rfl
theorem qzD (t):@kB _ _ (opE E M O (.alloc t) d ρ H) ⟨K⟩=@kB _ _ (E.P.zeroL t) ⟨fun z=>K (.ptr (qan (shD M.base d)) ((H (qan (shD M.base d))).gen+1) 0 0,[qan (shD M.base d)],[(qan (shD M.base d),qai H (qan (shD M.base d)) z.length [z])])⟩:=by
 simp only [opE,kB,kG,gu,qal,Option.bind_assoc,Option.bind_some]
theorem qGQ (t x):@kB _ _ (opE E M O (.box t x) d ρ H) ⟨K⟩=@kG _ ((ρ x).boxable=true) _ ⟨K (.ptr (qan (shD M.base d)) ((H (qan (shD M.base d))).gen+1) 0 0,[qan (shD M.base d)],[(qan (shD M.base d),qai H (qan (shD M.base d)) (ρ x).cellsV.length [(ρ x).cellsV])])⟩:=by
 simp only [opE,kB,kG,gu,qal,Option.bind_assoc,Option.bind_some]
theorem qzE (t l):@kB _ _ (opE E M O (.build t ⟨l⟩) d ρ H) ⟨K⟩=@kG _ (E.P.isComp t=true) _ ⟨@kB _ _ (E.P.zeroL t) ⟨fun z=>@kB _ _ (qfV (E.P.places t) z (l.map fun p=>(p.1,ρ p.2))) ⟨fun cs=>K (.agg (qyN M.cur d cs),[],[])⟩⟩⟩:=by
 simp only [opE,kB,kG,gu,qal,Option.bind_assoc,Option.bind_some]
theorem qrm (l cs):qyN l none cs=cs:=Eq.trans rfl rfl
theorem qrn (l cs) (e:Tmp):qyN l (some e) cs=qtE l e cs:=Eq.trans rfl rfl
theorem qu8 (e cs):qtE [] e cs=cs:=Eq.trans rfl rfl
theorem qro (p l e cs):qtE (p::l) e cs=if p.1=e then qtE l e (qli (p.2 / 100) (p.2 % 100) cs) else qtE l e cs:=Eq.trans rfl rfl
theorem qoM (st v vs):qli 0 st (v::vs)=qB3 st v::vs:=Eq.trans rfl rfl
theorem qoN (i st v vs):qli (i+1) st (v::vs)=v::qli i st vs:=Eq.trans rfl rfl
theorem qu9 (st):qB3 st (.sc (.slice none 0 0))= .slice st []:=Eq.trans rfl rfl
theorem qva (o size len rows):@kB _ _ (bsE 0 H o size len rows) ⟨K⟩=K (.osl o ((H o).gen+1) 0 len,[o],[(o,qai H o size rows)]):=rfl
theorem qvb (k o size len rows):@kB _ _ (bsE (k+1) H o size len rows) ⟨K⟩=@kG _ (0<len) _ ⟨@kG _ (rows.all qbN=true) _ ⟨K (.slice size rows,[o],[(o,{ qai H o size rows with mode:= .froz })])⟩⟩:=by
 simp only [bsE,kB,kG,gu,qal,Option.bind_some]
theorem qkb (t len l):@kB _ _ (opE E M O (.buildSlice t len ⟨l⟩) d ρ H) ⟨K⟩=@kB _ _ (E.P.elemO t) ⟨fun size=>@kG _ (0<size) _ ⟨@kB _ _ (E.P.elemZero t) ⟨fun z=>@kG _ (z.length=size) _ ⟨@kG _ (len * size≤16777216) _ ⟨@kB _ _ (qea size (List.replicate len z) (l.map fun p=>(p.1,ρ p.2))) ⟨fun rows=>
  @kB _ _ (bsE (qxN M.cur d) H (qan (shD M.base d)) size len rows) ⟨K⟩⟩⟩⟩⟩⟩⟩:=by
 simp only [opE,kB,kG,gu,qal,Option.bind_assoc,Option.bind_some]
theorem qlS (p cs) (K:List AVal→Option β):@kB _ _ (qfV p cs []) ⟨K⟩=K cs:=rfl
theorem qkc (p cs i v rest) (K:List AVal→Option β):@kB _ _ (qfV p cs ((i,v)::rest)) ⟨K⟩=@kB _ _ (p i) ⟨fun q=>@kG _ (v.boxable=true∧v.cellsV.length=q.2∧q.1+q.2≤cs.length) _ ⟨@kB _ _ (qfV p (qbf cs q.1 v.cellsV) rest) ⟨K⟩⟩⟩:=by
 simp only [qfV,kB,kG,gu,qal,Option.bind_assoc,Option.bind_some]
theorem qlT (st rs) (K:List (List AVal)→Option β):@kB _ _ (qea st rs []) ⟨K⟩=K rs:=rfl
theorem qkd (st rs i v rest) (K:List (List AVal)→Option β):@kB _ _ (qea st rs ((i,v)::rest)) ⟨K⟩=@kG _ (v.boxable=true∧v.cellsV.length=st∧i<rs.length) _ ⟨@kB _ _ (qea st (rs.set i v.cellsV) rest) ⟨K⟩⟩:=by
 simp only [qea,kB,kG,gu,qal,Option.bind_assoc,Option.bind_some]
theorem qCz (t x):@kB _ _ (opE E M O (.load t x) d ρ H) ⟨K⟩=@kB _ _ (E.P.szO t) ⟨fun n=>@kB _ _ (E.P.rowO t) ⟨fun g=>@kG _ (g=false→n=1) _ ⟨@kB _ _ (qfW H g n (ρ x)) ⟨K⟩⟩⟩⟩:=by
 simp only [opE,kB,kG,gu,qal,Option.bind_assoc,Option.bind_some]
theorem qzF (t x y):@kB _ _ (opE E M O (.store t x y) d ρ H) ⟨K⟩=@kB _ _ (E.P.szO t) ⟨fun n=>@kB _ _ (qhQ H n (ρ x) (ρ y)) ⟨K⟩⟩:=by
 simp only [opE,kB,kG,gu,qal,Option.bind_assoc,Option.bind_some]
theorem qoO (x):@kB _ _ (opE E M O (.nilCheck x) d ρ H) ⟨K⟩=@kG _ (qn2 (ρ x)=true) _ ⟨K (ρ x,[],[])⟩:=by
 simp only [opE,kB,kG,gu,qal,Option.bind_assoc,Option.bind_some]
theorem qzG (op t x y u):@kB _ _ (opE E M O (.binOp op t x y u) d ρ H) ⟨K⟩=@kB _ _ (qbG E.P op t (ρ x) (ρ y)) ⟨fun v=>K (v,[],[])⟩:=by
 simp only [opE,kB,kG,gu,qal,Option.bind_assoc,Option.bind_some]
theorem qCA (op t x):@kB _ _ (opE E M O (.unOp op t x) d ρ H) ⟨K⟩=@kB _ _ (unV op (ρ x)) ⟨fun v=>K (v,[],[])⟩:=by
 simp only [opE,kB,kG,gu,qal,Option.bind_assoc,Option.bind_some]
theorem qGR (t x):@kB _ _ (opE E M O (.sliceToArrayPointer t x) d ρ H) ⟨K⟩=@kB _ _ (qyJ E.P t (ρ x)) ⟨fun v=>K (v,[],[])⟩:=by
 simp only [opE,kB,kG,gu,qal,Option.bind_assoc,Option.bind_some]
theorem qrp (a b x):@kB _ _ (opE E M O (.convert a b x) d ρ H) ⟨K⟩=@kB _ _ (qho E.P H a b (shD M.base d) (ρ x)) ⟨K⟩:=rfl
theorem qoP (g fs cs):@kB _ _ (opE E M O (.makeFunc g ⟨fs⟩ ⟨cs⟩) d ρ H) ⟨K⟩=K (.fn g (fs.map ρ) (cs.map ρ),[],[]):=rfl
theorem qlU (t l c):@kB _ _ (opE E M O (.makeSlice t l c) d ρ H) ⟨K⟩=@kI _ (ρ l) ⟨fun _ nl=>@kI _ (ρ c) ⟨fun _ nc=>@kG _ (0≤nl) _ ⟨@kG _ (nl≤nc) _ ⟨@kB _ _ (E.P.elemO t) ⟨fun size=>@kG _ (0<size) _ ⟨@kB _ _ (E.P.elemBytes t) ⟨fun bytes=>@kB _ _ (E.P.elemZero t) ⟨fun z=>@kG _ (z.length=size) _ ⟨
  @kG _ ((bytes:Int) * nc≤281474976710656) _ ⟨@kG _ (nc≤9223372036854775807) _ ⟨K (.osl (qan (shD M.base d)) ((H (qan (shD M.base d))).gen+1) 0 nl.toNat,[qan (shD M.base d)],[(qan (shD M.base d),qbo H (qan (shD M.base d)) size (List.replicate nl.toNat z) (decide (nl=nc)))])⟩⟩⟩⟩⟩⟩⟩⟩⟩⟩⟩:=by
 simp only [opE,kI]
 cases ρ l<;>try rfl
 cases ρ c<;>try rfl
 simp only [kB,kG,gu,qal,Option.bind_assoc,Option.bind_some]
theorem qvc (t x lo h m):@kB _ _ (opE E M O (.slice t x lo (some h) (some m)) d ρ H) ⟨K⟩=@kB _ _ (qgB (qxN M.cur d) E.P H t (ρ x) (lo.map ρ) (ρ h) (ρ m)) ⟨K⟩:=rfl
theorem qke (P t p lo hi mx):qgB 0 P H t p lo hi mx=qfp P H t p lo hi mx:=Eq.trans rfl rfl
theorem qkf (k P t p lo hi mx):qgB (k+1) P H t p lo hi mx=qfq P H t p lo hi mx:=Eq.trans rfl rfl
theorem qrq (P t u e s x):qB8 0 P H t u e s x=qyW P H t u e s x:=Eq.trans rfl rfl
theorem qrr (k P t u e s x):qB8 (k+1) P H t u e s x=qhT P H t u s x:=Eq.trans rfl rfl
theorem qrs (l):qxN l none=0:=Eq.trans rfl rfl
theorem qrt (l) (e:Tmp):qxN l (some e)=nlk l e:=Eq.trans rfl rfl
theorem qzH (t x lo hi):@kB _ _ (opE E M O (.slice t x lo hi none) d ρ H) ⟨K⟩=@kB _ _ (qei E.P H t (ρ x) (lo.map ρ) (hi.map ρ)) ⟨K⟩:=rfl
theorem qlV (s x f):@kB _ _ (opE E M O (.fieldAddr s x f) d ρ H) ⟨K⟩=@kB _ _ (E.P.fldO s f) ⟨fun a=>@kB _ _ (qhR a.1 (ρ x)) ⟨K⟩⟩:=by
 simp only [opE,kB,kG,gu,qal,Option.bind_assoc,Option.bind_some]
theorem qzI (s x f):@kB _ _ (opE E M O (.field s x f) d ρ H) ⟨K⟩=@kB _ _ (E.P.fldO s f) ⟨fun a=>@kB _ _ (qow a.2.2 a.1 a.2.1 (ρ x)) ⟨K⟩⟩:=by
 simp only [opE,kB,kG,gu,qal,Option.bind_assoc,Option.bind_some]
theorem qlW (t x i):@kB _ _ (opE E M O (.indexAddr t x i) d ρ H) ⟨K⟩=@kI _ (ρ i) ⟨fun _ n=>@kG _ (0≤n) _ ⟨@kB _ _ (qa8 E.P H t (ρ x) n) ⟨K⟩⟩⟩:=by
 simp only [opE,kI];cases ρ i<;>first | rfl | exact qy6 _ _ _
theorem qzJ (t x i):@kB _ _ (opE E M O (.index t x i) d ρ H) ⟨K⟩=@kI _ (ρ i) ⟨fun _ n=>@kG _ (0≤n) _ ⟨@kB _ _ (qfL E.P t (ρ x) n) ⟨K⟩⟩⟩:=by
 simp only [opE,kI];cases ρ i<;>first | rfl | exact qy6 _ _ _
theorem qru (x i):@kB _ _ (opE E M O (.extract x i) d ρ H) ⟨K⟩=@kB _ _ (qBP i (ρ x)) ⟨K⟩:=rfl
theorem qGS (x t ts):@kB _ _ (opE E M O (.call ⟨.builtin .len,⟨[x]⟩,⟨t::ts⟩⟩) d ρ H) ⟨K⟩=@kB _ _ (qtG E.P H t (ρ x)) ⟨K⟩:=rfl
theorem qGT (x y t):@kB _ _ (opE E M O (.call ⟨.builtin .max,⟨[x,y]⟩,t⟩) d ρ H) ⟨K⟩=@kI _ (ρ x) ⟨fun k a=>@kI _ (ρ y) ⟨fun _ b=>K (.int k (if b>a then b else a),[],[])⟩⟩:=by
 simp only [opE,qeZ,kI];cases ρ x<;>try rfl
 cases ρ y<;>rfl
theorem qGU (x y t):@kB _ _ (opE E M O (.call ⟨.builtin .min,⟨[x,y]⟩,t⟩) d ρ H) ⟨K⟩=@kI _ (ρ x) ⟨fun k a=>@kI _ (ρ y) ⟨fun _ b=>K (.int k (if b<a then b else a),[],[])⟩⟩:=by
 simp only [opE,qeZ,kI];cases ρ x<;>try rfl
 cases ρ y<;>rfl
theorem qvd (x y t u):@kB _ _ (opE E M O (.call ⟨.builtin .append,⟨[x,y]⟩,⟨[t,u]⟩⟩) d ρ H) ⟨K⟩=@kB _ _ (qB8 (qxN M.cur d) E.P H t u (shD M.base d) (ρ x) (ρ y)) ⟨K⟩:=rfl
theorem qzK (x t ts):@kB _ _ (opE E M O (.call ⟨.builtin .clear,⟨[x]⟩,⟨t::ts⟩⟩) d ρ H) ⟨K⟩=@kB _ _ (qhU E.P H t (ρ x)) ⟨K⟩:=rfl
theorem qGV (x t ts):@kB _ _ (opE E M O (.call ⟨.builtin .cap,⟨[x]⟩,⟨t::ts⟩⟩) d ρ H) ⟨K⟩=@kB _ _ (qBQ E.P H t (ρ x)) ⟨K⟩:=rfl
theorem qCB (x y t u):@kB _ _ (opE E M O (.call ⟨.builtin .copy,⟨[x,y]⟩,⟨[t,u]⟩⟩) d ρ H) ⟨K⟩=@kB _ _ (qox E.P H t u (ρ x) (ρ y)) ⟨K⟩:=rfl
end
section
variable {β:Type} (P:Program) (H:qac) (K:Out→Option β)
theorem qrv (g n o gn i j):@kB _ _ (qfW H g n (.ptr o gn i j)) ⟨K⟩=@kG _ ((H o).gen=gn) _ ⟨@kG _ ((H o).mode≠ .dead) _ ⟨@kB _ _ ((H o).rows[i]?) ⟨fun r=>@kG _ (j+n≤r.length) _ ⟨K (mkV g ((r.drop j).take n),[o],[])⟩⟩⟩⟩:=by
 simp only [qfW,kB,kG,gu,qal,Option.bind_assoc,Option.bind_some]
theorem qoQ (g n cs):@kB _ _ (qfW H g n (.iptr cs)) ⟨K⟩=@kG _ (n≤cs.length) _ ⟨K (mkV g (cs.take n),[],[])⟩:=by
 simp only [qfW,kB,kG,gu,qal,Option.bind_assoc,Option.bind_some]
theorem qoR (n v o gn i j):@kB _ _ (qhQ H n (.ptr o gn i j) v) ⟨K⟩=@kG _ (v.boxable=true) _ ⟨@kG _ (v.cellsV.length=n) _ ⟨@kG _ (v.cellsV.all AVal.one=true) _ ⟨@kG _ ((H o).gen=gn) _ ⟨@kG _ ((H o).mode= .live) _ ⟨@kB _ _ ((H o).rows[i]?) ⟨fun r=>@kG _ (j+v.cellsV.length≤r.length) _ ⟨
  K (.junk,[o],[(o,{ H o with rows:=(H o).rows.set i (qbf r j v.cellsV) })])⟩⟩⟩⟩⟩⟩⟩:=by
 simp only [qhQ,kB,kG,gu,qal,Option.bind_assoc,Option.bind_some]
theorem qoS (off o g i j):@kB _ _ (qhR off (.ptr o g i j)) ⟨K⟩=K (.ptr o g i (j+off),[],[]):=rfl
theorem qlX (off cs):@kB _ _ (qhR off (.iptr cs)) ⟨K⟩=K (.iptr (cs.drop off),[],[]):=rfl
theorem qrw (g off n cs):@kB _ _ (qow g off n (.agg cs)) ⟨K⟩=@kG _ (off+n≤cs.length) _ ⟨@kG _ (g=false→n=1) _ ⟨K (mkV g ((cs.drop off).take n),[],[])⟩⟩:=by
 simp only [qow,kB,kG,gu,qal,Option.bind_assoc,Option.bind_some]
theorem qf0 (t st es n):@kB _ _ (qa8 P H t (.slice st es) n) ⟨K⟩=@kG _ (P.elemO t=some st) _ ⟨@kB _ _ (es[n.toNat]?) ⟨fun r=>K (.iptr r,[],[])⟩⟩:=by
 simp only [qa8,kB,kG,gu,qal,Option.bind_assoc,Option.bind_some]
theorem qhr (t o g i m n):@kB _ _ (qa8 P H t (.osl o g i m) n) ⟨K⟩=@kG _ ((H o).gen=g) _ ⟨@kG _ ((H o).mode≠ .dead) _ ⟨@kG _ (P.elemO t=some (H o).st) _ ⟨@kG _ (n.toNat<m) _ ⟨K (.ptr o g (i+n.toNat) 0,[o],[])⟩⟩⟩⟩:=by
 simp only [qa8,kB,kG,gu,qal,Option.bind_assoc,Option.bind_some]
theorem qhs (t o g i j n):@kB _ _ (qa8 P H t (.ptr o g i j) n) ⟨K⟩=@kB _ _ (P.arrO t) ⟨fun a=>@kG _ (n.toNat<a.1) _ ⟨K (.ptr o g i (j+n.toNat * a.2.1),[],[])⟩⟩:=by
 simp only [qa8,kB,kG,gu,qal,Option.bind_assoc,Option.bind_some]
theorem qgO (t cs n):@kB _ _ (qa8 P H t (.iptr cs) n) ⟨K⟩=@kB _ _ (P.arrO t) ⟨fun a=>@kG _ (n.toNat<a.1) _ ⟨K (.iptr (cs.drop (n.toNat * a.2.1)),[],[])⟩⟩:=by
 simp only [qa8,kB,kG,gu,qal,Option.bind_assoc,Option.bind_some]
theorem qoT (t l n):@kB _ _ (qfL P t (.str l) n) ⟨K⟩=@kG _ (P.isStr t=true) _ ⟨@kB _ _ (l[n.toNat]?) ⟨fun b=>K (.int .u8 b.toNat,[],[])⟩⟩:=by
 simp only [qfL,kB,kG,gu,qal,Option.bind_assoc,Option.bind_some]
theorem qoU (t cs n):@kB _ _ (qfL P t (.agg cs) n) ⟨K⟩=@kB _ _ (P.arrO t) ⟨fun a=>@kG _ (n.toNat<a.1) _ ⟨@kG _ (n.toNat * a.2.1+a.2.1≤cs.length) _ ⟨@kG _ (a.2.2=false→a.2.1=1) _ ⟨K (mkV a.2.2 ((cs.drop (n.toNat * a.2.1)).take a.2.1),[],[])⟩⟩⟩⟩:=by
 simp only [qfL,kB,kG,gu,qal,Option.bind_assoc,Option.bind_some]
theorem qve (i vs):@kB _ _ (qBP i (.tup vs)) ⟨K⟩=@kB _ _ (vs[i]?) ⟨fun v=>K (v,[],[])⟩:=by
 simp only [qBP,kB,kG,gu,qal,Option.bind_assoc,Option.bind_some]
theorem qiN (t st es lo hi mx):@kB _ _ (qfp P H t (.slice st es) lo hi mx) ⟨K⟩=@kG _ (P.elemO t=some st) _ ⟨@kB _ _ (bnd (some mx) 0 es.length) ⟨fun m=>@kB _ _ (bnd (some hi) 0 m) ⟨fun h=>@kB _ _ (bnd lo 0 h) ⟨fun b=>K (.slice st ((es.drop b).take (h - b)),[],[])⟩⟩⟩⟩:=by
 simp only [qfp,kB,kG,gu,qal,Option.bind_assoc,Option.bind_some]
theorem qoV (t l lo hi):@kB _ _ (qei P H t (.str l) lo hi) ⟨K⟩=@kG _ (P.isStr t=true) _ ⟨@kB _ _ (bnd hi l.length l.length) ⟨fun h=>@kB _ _ (bnd lo 0 h) ⟨fun b=>K (.str ((l.drop b).take (h - b)),[],[])⟩⟩⟩:=by
 simp only [qei,kB,kG,gu,qal,Option.bind_assoc,Option.bind_some]
theorem qkg (t st es lo hi):@kB _ _ (qei P H t (.slice st es) lo hi) ⟨K⟩=@kG _ (P.elemO t=some st) _ ⟨@kB _ _ (bnd hi es.length es.length) ⟨fun h=>@kB _ _ (bnd lo 0 h) ⟨fun b=>K (.slice st ((es.drop b).take (h - b)),[],[])⟩⟩⟩:=by
 simp only [qei,kB,kG,gu,qal,Option.bind_assoc,Option.bind_some]
theorem qoW (t o g i m lo hi):@kB _ _ (qei P H t (.osl o g i m) lo hi) ⟨K⟩=@kG _ ((H o).gen=g) _ ⟨@kG _ ((H o).mode≠ .dead) _ ⟨@kG _ (P.elemO t=some (H o).st) _ ⟨@kB _ _ (bnd hi m ((H o).rows.length - i)) ⟨fun h=>@kB _ _ (bnd lo 0 h) ⟨fun b=>K (.osl o g (i+b) (h - b),[o],[])⟩⟩⟩⟩⟩:=by
 simp only [qei,kB,kG,gu,qal,Option.bind_assoc,Option.bind_some]
theorem qzL (k n):(AVal.int k n).num=true:=rfl
theorem qvf (b):(AVal.bool b).num=true:=rfl
theorem qzM (l):(AVal.str l).num=true:=rfl
theorem qoX (t st es) (K:AVal→Option β):@kB _ _ (qyJ P t (.slice st es)) ⟨K⟩=@kB _ _ (P.arrO t) ⟨fun a=>@kG _ (a.2.1=st∧0<a.1∧a.1≤es.length) _ ⟨K (.iptr es.flatten)⟩⟩:=by
 simp only [qyJ,kB,kG,gu,qal,Option.bind_assoc,Option.bind_some]
theorem qrx (s d dst k n):@kB _ _ (qho P H s d dst (.int k n)) ⟨K⟩=@kG _ ((P.underlying s).isSome=true) _ ⟨@kB _ _ (qqq P d) ⟨fun k=>K (.int k (k.wrap n),[],[])⟩⟩:=by
 simp only [qho,kB,kG,gu,qal,Option.bind_assoc,Option.bind_some]
theorem qry (s d dst l):@kB _ _ (qho P H s d dst (.str l)) ⟨K⟩=if P.isStr d=true then @kG _ ((P.underlying s).isSome=true) _ ⟨K (.str l,[],[])⟩ else @kG _ (P.isStr s=true) _ ⟨@kG _ (P.isBytes d=true) _ ⟨@kG _ (l.length≤9223372036854775807) _ ⟨K (.osl (qan dst) ((H (qan dst)).gen+1) 0 l.length,[qan dst],[(qan dst,qai H (qan dst) 1 (l.map qab))])⟩⟩⟩:=by
 simp only [qho];split<;>simp only [kB,kG,gu,qal,Option.bind_assoc,Option.bind_some]
theorem qlY (s d dst st es):@kB _ _ (qho P H s d dst (.slice st es)) ⟨K⟩=@kG _ (P.isBytes s=true) _ ⟨@kG _ (P.isStr d=true) _ ⟨@kB _ _ (qhe P H s 1 (.slice st es)) ⟨fun p=>@kB _ _ (qdz p.1) ⟨fun l=>K (.str l,p.2,[])⟩⟩⟩⟩:=by
 simp only [qho,kB,kG,gu,qal,Option.bind_assoc,Option.bind_some]
theorem qvg (t l):@kB _ _ (qtG P H t (.str l)) ⟨K⟩=@kG _ (P.isStr t=true) _ ⟨K (.int .i64 (l.length:Int),[],[])⟩:=by simp only [qtG,kB,kG,gu,qal,Option.bind_assoc,Option.bind_some]
theorem qoY (t st es):@kB _ _ (qtG P H t (.slice st es)) ⟨K⟩=@kG _ ((P.elemO t).isSome=true) _ ⟨K (.int .i64 (es.length:Int),[],[])⟩:=by simp only [qtG,kB,kG,gu,qal,Option.bind_assoc,Option.bind_some]
theorem qvh (t o g i n):@kB _ _ (qtG P H t (.osl o g i n)) ⟨K⟩=@kG _ ((P.elemO t).isSome=true) _ ⟨@kG _ ((H o).gen=g) _ ⟨@kG _ ((H o).mode≠ .dead) _ ⟨K (.int .i64 (n:Int),[o],[])⟩⟩⟩:=by simp only [qtG,kB,kG,gu,qal,Option.bind_assoc,Option.bind_some]
variable (K':List (List AVal)×List Nat→Option β)
theorem qoZ (t size st es):@kB _ _ (qhe P H t size (.slice st es)) ⟨K'⟩=@kG _ (st=size∨es=[]) _ ⟨K' (es,[])⟩:=by simp only [qhe,kB,kG,gu,qal,Option.bind_assoc,Option.bind_some]
theorem qvi (t size o g i n):@kB _ _ (qhe P H t size (.osl o g i n)) ⟨K'⟩=@kG _ ((H o).gen=g) _ ⟨@kG _ ((H o).mode≠ .dead) _ ⟨@kG _ ((H o).st=size) _ ⟨@kG _ (i+n≤(H o).rows.length) _ ⟨K' (((H o).rows.drop i).take n,[o])⟩⟩⟩⟩:=by simp only [qhe,kB,kG,gu,qal,Option.bind_assoc,Option.bind_some]
theorem qvj (t size l):@kB _ _ (qhe P H t size (.str l)) ⟨K'⟩=@kG _ (P.isStr t=true) _ ⟨@kG _ (size=1) _ ⟨K' (l.map qab,[])⟩⟩:=by simp only [qhe,kB,kG,gu,qal,Option.bind_assoc,Option.bind_some]
theorem qvk (t size):@kB _ _ (qhe P H t size (.sc (.slice none 0 0))) ⟨K'⟩=K' ([],[]):=rfl
theorem qrz (t size a c):@kB _ _ (qhe P H t size (.sc (.slice (some a) 0 c))) ⟨K'⟩=K' ([],[]):=rfl
theorem qvl (t u d s k n):@kB _ _ (qyW P H t u d s (.int k n)) ⟨K⟩=@kB _ _ (qhS P H t u d s n) ⟨K⟩:=rfl
theorem qo0 (t u d s st es):@kB _ _ (qyW P H t u d s (.slice st es)) ⟨K⟩=@kB _ _ (qcG P H t u d s (.slice st es)) ⟨K⟩:=rfl
theorem qvm (t u d s o g i n):@kB _ _ (qyW P H t u d s (.osl o g i n)) ⟨K⟩=@kB _ _ (qcG P H t u d s (.osl o g i n)) ⟨K⟩:=rfl
theorem qvn (t u d s l):@kB _ _ (qyW P H t u d s (.str l)) ⟨K⟩=@kB _ _ (qcG P H t u d s (.str l)) ⟨K⟩:=rfl
theorem qzN (t u d s v):@kB _ _ (qyW P H t u d s (.sc v)) ⟨K⟩=@kB _ _ (qcG P H t u d s (.sc v)) ⟨K⟩:=rfl
theorem qlZ (t u d x):@kB _ _ (qcG P H t u d (.sc (.slice none 0 0)) x) ⟨K⟩=@kB _ _ (P.elemO t) ⟨fun size=>@kB _ _ (P.elemBytes t) ⟨fun bytes=>@kB _ _ (P.elemZero t) ⟨fun z=>@kG _ (z.length=size) _ ⟨@kG _ (P.isInt u=false) _ ⟨@kG _ ((P.underlying u).isSome=true) _ ⟨
 @kB _ _ (qhe P H u size x) ⟨fun p=>@kG _ (qcb p.1=true) _ ⟨@kG _ (p.1.length * bytes≤140737488355328) _ ⟨@kG _ (p.1.length≤9223372036854775807) _ ⟨K (.osl (qan d) ((H (qan d)).gen+1) 0 p.1.length,qan d::p.2,[(qan d,qai H (qan d) size p.1)])⟩⟩⟩⟩⟩⟩⟩⟩⟩⟩:=by
 simp only [qcG,kB,kG,gu,qal,Option.bind_assoc,Option.bind_some]
theorem ql0 (t u d o g i n x):@kB _ _ (qcG P H t u d (.osl o g i n) x) ⟨K⟩=@kB _ _ (P.elemO t) ⟨fun size=>@kB _ _ (P.elemBytes t) ⟨fun bytes=>@kB _ _ (P.elemZero t) ⟨fun z=>@kG _ (z.length=size) _ ⟨@kG _ (P.isInt u=false) _ ⟨@kG _ ((P.underlying u).isSome=true) _ ⟨
 @kB _ _ (qhe P H u size x) ⟨fun p=>@kG _ (qcb p.1=true) _ ⟨@kG _ ((H o).gen=g) _ ⟨@kG _ ((H o).mode= .live) _ ⟨@kG _ ((H o).st=size) _ ⟨@kG _ (i+n≤(H o).rows.length) _ ⟨@kG _ ((n+p.1.length) * bytes≤140737488355328) _ ⟨@kG _ (n+p.1.length≤9223372036854775807) _ ⟨
   K (.osl o (g+1) 0 (n+p.1.length),o::p.2,[(o,⟨g+1,.live,size,((H o).rows.drop i).take n++p.1,false⟩)])⟩⟩⟩⟩⟩⟩⟩⟩⟩⟩⟩⟩⟩⟩:=by
 simp only [qcG,kB,kG,gu,qal,Option.bind_assoc,Option.bind_some]
theorem ql1 (t o g i n lo hi mx):@kB _ _ (qfq P H t (.osl o g i n) lo hi mx) ⟨K⟩=@kG _ ((H o).gen=g) _ ⟨@kG _ ((H o).mode≠ .dead) _ ⟨@kG _ (P.elemO t=some (H o).st) _ ⟨@kG _ (0<(H o).rows.length) _ ⟨@kB _ _ (bnd (some mx) 0 ((H o).rows.length - i)) ⟨fun m=>@kB _ _ (bnd (some hi) 0 m) ⟨fun h=>@kB _ _ (bnd lo 0 h) ⟨fun _=>K (.junk,[o],[])⟩⟩⟩⟩⟩⟩⟩:=by
 simp only [qfq,kB,kG,gu,qal,Option.bind_assoc,Option.bind_some]
theorem qo1 (t u o g i n x):@kB _ _ (qhT P H t u (.osl o g i n) x) ⟨K⟩=@kB _ _ (P.elemO t) ⟨fun size=>@kG _ (P.isInt u=false) _ ⟨@kG _ ((P.underlying u).isSome=true) _ ⟨
 @kB _ _ (qhe P H u size x) ⟨fun p=>@kG _ (qcb p.1=true) _ ⟨@kG _ ((H o).gen=g) _ ⟨@kG _ ((H o).mode= .live) _ ⟨@kG _ ((H o).st=size) _ ⟨@kG _ (i+n+p.1.length≤(H o).rows.length) _ ⟨
   K (.osl o g i (n+p.1.length),o::p.2,[(o,{ H o with rows:=(H o).rows.take (i+n)++p.1++(H o).rows.drop (i+n+p.1.length) })])⟩⟩⟩⟩⟩⟩⟩⟩⟩:=by
 simp only [qhT,kB,kG,gu,qal,Option.bind_assoc,Option.bind_some]
theorem qo2 (t o g i n):@kB _ _ (qhU P H t (.osl o g i n)) ⟨K⟩=@kB _ _ (P.elemO t) ⟨fun size=>@kB _ _ (P.elemZero t) ⟨fun z=>@kG _ (z.length=size) _ ⟨@kG _ (qcb [z]=true) _ ⟨@kG _ ((H o).gen=g) _ ⟨@kG _ ((H o).mode= .live) _ ⟨@kG _ ((H o).st=size) _ ⟨@kG _ (i+n≤(H o).rows.length) _ ⟨
   K (.tup [],[o],[(o,{ H o with rows:=(H o).rows.take i++List.replicate n z++(H o).rows.drop (i+n) })])⟩⟩⟩⟩⟩⟩⟩⟩:=by
 simp only [qhU,kB,kG,gu,qal,Option.bind_assoc,Option.bind_some]
theorem qrA {α β:Type} (p:Prop) [Decidable p] (a b:Option α) (f:α→Option β):(if p then a else b).bind f=if p then a.bind f else b.bind f:=by split<;>rfl
theorem qo3 (t u d o g i n k):@kB _ _ (qhS P H t u d (.osl o g i n) k) ⟨K⟩=@kG _ (P.isInt u=true) _ ⟨@kB _ _ (P.elemO t) ⟨fun size=>@kG _ (0<size) _ ⟨@kB _ _ (P.elemBytes t) ⟨fun bytes=>@kB _ _ (P.elemZero t) ⟨fun z=>@kG _ (z.length=size) _ ⟨@kG _ (0≤k) _ ⟨
   @kG _ ((H o).gen=g) _ ⟨@kG _ ((H o).mode≠ .dead) _ ⟨@kG _ ((H o).st=size) _ ⟨@kG _ (i+n≤(H o).rows.length) _ ⟨@kG _ ((n+k.toNat) * bytes≤140737488355328) _ ⟨@kG _ (n+k.toNat≤9223372036854775807) _ ⟨
   if (H o).exact=true∧(H o).rows.length<i+n+k.toNat then K (.osl (qan d) ((H (qan d)).gen+1) 0 (n+k.toNat),[qan d,o],[(qan d,qai H (qan d) size (((H o).rows.drop i).take n++List.replicate k.toNat z))])
   else @kG _ ((H o).mode= .live) _ ⟨@kG _ (qcb (List.replicate k.toNat z)=true) _ ⟨K (.osl o (g+1) 0 (n+k.toNat),[o],[(o,⟨g+1,.live,size,((H o).rows.drop i).take n++List.replicate k.toNat z,false⟩)])⟩⟩⟩⟩⟩⟩⟩⟩⟩⟩⟩⟩⟩⟩⟩:=by
 simp only [qhS,kB,kG,gu,qal,qrA,Option.bind_assoc,Option.bind_some,Option.bind_none]
theorem qvo (t o g i n):@kB _ _ (qBQ P H t (.osl o g i n)) ⟨K⟩=@kG _ ((P.elemO t).isSome=true) _ ⟨@kG _ ((H o).gen=g) _ ⟨@kG _ ((H o).mode≠ .dead) _ ⟨@kG _ ((H o).exact=true) _ ⟨K (.int .i64 (((H o).rows.length - i:Nat):Int),[o],[])⟩⟩⟩⟩:=by
 simp only [qBQ,kB,kG,gu,qal,Option.bind_assoc,Option.bind_some]
theorem qrB (t u o g i n x):@kB _ _ (qox P H t u (.osl o g i n) x) ⟨K⟩=@kB _ _ (P.elemO t) ⟨fun size=>@kB _ _ (qhe P H u size x) ⟨fun p=>@kG _ ((H o).gen=g) _ ⟨@kG _ ((H o).mode= .live) _ ⟨@kG _ ((H o).st=size) _ ⟨@kG _ (i+n≤(H o).rows.length) _ ⟨@kG _ (qcb (p.1.take (min p.1.length n))=true) _ ⟨
   K (.int .i64 ((min p.1.length n:Nat):Int),o::p.2,[(o,{ H o with rows:=(H o).rows.take i++p.1.take (min p.1.length n)++(H o).rows.drop (i+min p.1.length n) })])⟩⟩⟩⟩⟩⟩⟩:=by
 simp only [qox,kB,kG,gu,qal,Option.bind_assoc,Option.bind_some]
end
section
variable {β:Type} (E:Env) (M:Mds) (O:Orc) (H:qac)
theorem qzO (f vals d) (K:Out→Option β):@kB _ _ (qeu E M O f vals d H) ⟨K⟩=@kG _ (E.P.goFn f=true) _ ⟨@kB _ _ (qfX H (M.par f) (E.P.parK f) vals) ⟨fun p=>@kG _ (qcI p.2.1=true) _ ⟨@kG _ (qdM p.2.1 p.2.2=true) _ ⟨
  @kB _ _ (O f (qb3 H (M.par f) 0 vals p.1) p.1) ⟨fun q=>@kG _ (qcY H (qaq vals p.1) q.2=true) _ ⟨@kB _ _ (qq2 H p.2.1 p.2.2 (qaq vals p.1) d q.1 q.2 (if q.1.flat&&qbZ q.2 then [] else p.2.2)) ⟨K⟩⟩⟩⟩⟩⟩⟩:=by
 simp only [qeu,kB,kG,gu,qal,Option.bind_assoc,Option.bind_some]
theorem ql2 (ms kss) (K:_→Option β):@kB _ _ (qfX H ms kss []) ⟨K⟩=K ([],[],[]):=rfl
theorem qkh (ms kss v vs) (K:_→Option β):@kB _ _ (qfX H ms kss (v::vs)) ⟨K⟩=@kB _ _ (qjS H (ms.headD 0) (kss.headD []) v) ⟨fun p=>@kB _ _ (qfX H ms.tail kss.tail vs) ⟨fun q=>K (p.1::q.1,p.2.1++q.2.1,p.2.2++q.2.2)⟩⟩:=by
 simp only [qfX,kB,kG,gu,qal,Option.bind_assoc,Option.bind_some]
theorem qzP (m ks v) (K:Pko→Option β):@kB _ _ (qjS H m ks v) ⟨K⟩=if m=0 then @kB _ _ (pkE H 4 v) ⟨fun p=>K (qga false ks p.1,[],p.2)⟩ else @kB _ _ (pkO H 4 v) ⟨fun p=>K (qga true ks p.1,p.2)⟩:=by
 simp only [qjS];split<;>simp only [kB,kG,gu,qal,Option.bind_assoc,Option.bind_some]
theorem qcd (n v) (h:v.plain=true) (K:_→Option β):@kB _ _ (pkE H n v) ⟨K⟩=K (v,[]):=by
 cases n with
 | zero=>cases v<;>simp [AVal.plain]at h<;>simp [pkE,AVal.clo,AVal.plain,gu,kB]
 | succ n=>cases v<;>simp [AVal.plain]at h<;>simp [pkE,AVal.plain,gu,kB]
theorem qo4 (n b) (K:_→Option β):@kB _ _ (pkE H n (.bool b)) ⟨K⟩=K (.bool b,[]):=qcd H n _ rfl K
theorem qrC (n k i) (K:_→Option β):@kB _ _ (pkE H n (.int k i)) ⟨K⟩=K (.int k i,[]):=qcd H n _ rfl K
theorem qrD (n l) (K:_→Option β):@kB _ _ (pkE H n (.str l)) ⟨K⟩=K (.str l,[]):=qcd H n _ rfl K
theorem qvp (n v) (K:_→Option β):@kB _ _ (pkE H n (.sc v)) ⟨K⟩=K (.sc v,[]):=qcd H n _ rfl K
theorem qo5 (n cs) (K:_→Option β):@kB _ _ (pkE H n (.iptr cs)) ⟨K⟩=K (.iptr cs,[]):=qcd H n _ rfl K
theorem ql3 (n st es) (K:_→Option β):@kB _ _ (pkE H n (.slice st es)) ⟨K⟩=K (.slice st es,[]):=qcd H n _ rfl K
theorem qrE (n cs) (K:_→Option β):@kB _ _ (pkE H (n+1) (.agg cs)) ⟨K⟩=@kB _ _ (pkL (pkE H n) cs) ⟨fun p=>K (.agg p.1,p.2)⟩:=by simp only [pkE,kB,kG,gu,qal,Option.bind_assoc,Option.bind_some]
theorem qvq (n f fs cs) (K:_→Option β):@kB _ _ (pkE H (n+1) (.fn f fs cs)) ⟨K⟩=@kB _ _ (pkL (pkE H n) fs) ⟨fun p=>@kB _ _ (pkL (pkE H n) cs) ⟨fun q=>K (.fn f p.1 q.1,p.2++q.2)⟩⟩:=by simp only [pkE,kB,kG,gu,qal,Option.bind_assoc,Option.bind_some]
theorem qrF (n o g i m) (K:_→Option β):@kB _ _ (pkE H (n+1) (.osl o g i m)) ⟨K⟩=@kG _ ((H o).gen=g) _ ⟨@kG _ ((H o).mode≠ .dead) _ ⟨@kG _ (i+m≤(H o).rows.length) _ ⟨@kB _ _ (qej (pkE H n) (((H o).rows.drop i).take m)) ⟨fun p=>K (.slice (H o).st p.1,o::p.2)⟩⟩⟩⟩:=by
 simp only [pkE,kB,kG,gu,qal,Option.bind_assoc,Option.bind_some]
theorem qrG (n o g i j) (K:_→Option β):@kB _ _ (pkE H (n+1) (.ptr o g i j)) ⟨K⟩=@kG _ ((H o).gen=g) _ ⟨@kG _ ((H o).mode≠ .dead) _ ⟨@kB _ _ ((H o).rows[i]?) ⟨fun r=>@kB _ _ (pkL (pkE H n) (qqc (r.drop j))) ⟨fun p=>K (.iptr p.1,o::p.2)⟩⟩⟩⟩:=by
 simp only [pkE,kB,kG,gu,qal,Option.bind_assoc,Option.bind_some]
theorem qrH (f) (K:_→Option β):@kB _ _ (pkL f []) ⟨K⟩=K ([],[]):=rfl
theorem qo6 (f v vs) (K:_→Option β):@kB _ _ (pkL f (v::vs)) ⟨K⟩=@kB _ _ (f v) ⟨fun p=>@kB _ _ (pkL f vs) ⟨fun q=>K (p.1::q.1,p.2++q.2)⟩⟩:=by simp only [pkL,kB,kG,gu,qal,Option.bind_assoc,Option.bind_some]
theorem qvr (f rs) (K:_→Option β):@kB _ _ (qej f rs) ⟨K⟩=if rs.all qbN=true then K (rs,[]) else @kB _ _ (qlz f rs) ⟨K⟩:=by simp only [qej];split<;>rfl
theorem qo7 (f) (K:_→Option β):@kB _ _ (qlz f []) ⟨K⟩=K ([],[]):=rfl
theorem ql4 (f v vs) (K:_→Option β):@kB _ _ (qlz f (v::vs)) ⟨K⟩=@kB _ _ (pkL f v) ⟨fun p=>@kB _ _ (qlz f vs) ⟨fun q=>K (p.1::q.1,p.2++q.2)⟩⟩:=by simp only [qlz,kB,kG,gu,qal,Option.bind_assoc,Option.bind_some]
theorem qce (n v) (h:v.plain=true) (K:_→Option β):@kB _ _ (pkO H n v) ⟨K⟩=K (v,[],[]):=by
 cases n with
 | zero=>cases v<;>simp [AVal.plain]at h<;>simp [pkO,AVal.clo,AVal.plain,gu,kB]
 | succ n=>cases v<;>simp [AVal.plain]at h<;>simp [pkO,pkE,AVal.plain,gu,kB]
theorem qo8 (n b) (K:_→Option β):@kB _ _ (pkO H n (.bool b)) ⟨K⟩=K (.bool b,[],[]):=qce H n _ rfl K
theorem qrI (n k i) (K:_→Option β):@kB _ _ (pkO H n (.int k i)) ⟨K⟩=K (.int k i,[],[]):=qce H n _ rfl K
theorem qrJ (n l) (K:_→Option β):@kB _ _ (pkO H n (.str l)) ⟨K⟩=K (.str l,[],[]):=qce H n _ rfl K
theorem qvs (n v) (K:_→Option β):@kB _ _ (pkO H n (.sc v)) ⟨K⟩=K (.sc v,[],[]):=qce H n _ rfl K
theorem ql5 (n st es) (K:_→Option β):@kB _ _ (pkO H n (.slice st es)) ⟨K⟩=K (.slice st es,[],[]):=qce H n _ rfl K
theorem qo9 (n ) (K:_→Option β):@kB _ _ (pkO H n (.junk)) ⟨K⟩=K (.junk,[],[]):=qce H n _ rfl K
theorem qrK (n cs) (K:_→Option β):@kB _ _ (pkO H (n+1) (.agg cs)) ⟨K⟩=@kB _ _ (qoy (pkO H n) cs) ⟨fun p=>K (.agg p.1,p.2)⟩:=by simp only [pkO,kB,kG,gu,qal,Option.bind_assoc,Option.bind_some]
theorem qrL (n o g i m) (K:_→Option β):@kB _ _ (pkO H (n+1) (.osl o g i m)) ⟨K⟩=if (H o).mode= .live∧i=0∧m≤(H o).rows.length then @kG _ ((H o).gen=g) _ ⟨@kB _ _ (qej (pkE H n) ((H o).rows.take m)) ⟨fun p=>K (.usl (H o).st p.1,[o],p.2)⟩⟩
  else @kB _ _ (pkE H (n+1) (.osl o g i m)) ⟨fun p=>K (p.1,[],p.2)⟩:=by
 simp only [pkO];split<;>simp only [kB,kG,gu,qal,Option.bind_assoc,Option.bind_some]
theorem qrM (n o g i j) (K:_→Option β):@kB _ _ (pkO H (n+1) (.ptr o g i j)) ⟨K⟩=@kG _ ((H o).gen=g) _ ⟨@kG _ ((H o).mode= .live) _ ⟨@kG _ (i=0∧j=0) _ ⟨@kB _ _ (qq0 (qoy (pkO H n)) o (H o).rows) ⟨K⟩⟩⟩⟩:=by
 simp only [pkO,kB,kG,gu,qal,Option.bind_assoc,Option.bind_some]
theorem qzQ (f o r) (K:Pko→Option β):@kB _ _ (qq0 f o [r]) ⟨K⟩=@kB _ _ (f r) ⟨fun p=>K (.uptr p.1,o::p.2.1,p.2.2)⟩:=by simp only [qq0,kB,kG,gu,qal,Option.bind_assoc,Option.bind_some]
theorem qpa (f) (K:_→Option β):@kB _ _ (qoy f []) ⟨K⟩=K ([],[],[]):=rfl
theorem ql6 (f v vs) (K:_→Option β):@kB _ _ (qoy f (v::vs)) ⟨K⟩=@kB _ _ (f v) ⟨fun p=>@kB _ _ (qoy f vs) ⟨fun q=>K (p.1::q.1,p.2.1++q.2.1,p.2.2++q.2.2)⟩⟩:=by simp only [qoy,kB,kG,gu,qal,Option.bind_assoc,Option.bind_some]
theorem qzR (u b lent d r ls bz) (K:Out→Option β):@kB _ _ (qq2 H u b lent d r ls bz) ⟨K⟩=
 @kG _ (qcI ((qcR (qaZ H u lent bz) (qan d) r++qaX (qaZ H u lent bz) lent ls).map (·.1))=true) _ ⟨
 K (qhE (qaZ H u lent bz) (qan d) r,
   u++b++(qaT H u lent bz++(qcR (qaZ H u lent bz) (qan d) r++qaX (qaZ H u lent bz) lent ls)).map (·.1),
   qaT H u lent bz++(qcR (qaZ H u lent bz) (qan d) r++qaX (qaZ H u lent bz) lent ls))⟩:=by
 simp only [qq2,kB,kG,gu,qal,Option.bind_assoc,Option.bind_some]
end
theorem qvt (H:qac) (u os bz:List Nat):qaZ H u os bz=H.setAll (qaT H u os bz):=rfl
def mkU (H:qac) (u lent:List Nat):List Nat→List (Nat×Obj)
 | []=>[]
 | o::os=>(o,qbO H u lent o)::mkU H u lent os
theorem qzS (H:qac) (u lent):mkU H u lent []=[]:=rfl
theorem qnl (H:qac) (u lent o os):mkU H u lent (o::os)=(o,qbO H u lent o)::mkU H u lent os:=rfl
theorem qrN (H:qac) (u os bz:List Nat):qaT H u os bz=mkU H u os (u++bz):=by
 unfold qaT
 induction (u++bz)with
 | nil=>rfl
 | cons o l ih=>rw [List.map_cons,ih,qnl]
theorem qpb (H:qac) (u lent:List Nat) (o:Nat):qbO H u lent o=if o∈lent then { H o with rows:=[List.replicate (H o).st .junk] }
 else if o∈u then ⟨(H o).gen+1,.dead,(H o).st,[],false⟩
 else { H o with mode:=if (H o).mode= .live then .froz else (H o).mode }:=rfl
theorem qpc (H:qac) (ls):qaX H [] ls=[]:=by simp [qaX]
theorem ql7 (H:qac) (o os cs ls):qaX H (o::os) (.uptr cs::ls)=qa9 H o 0 cs++((o,{ H o with rows:=[qaU H o 0 cs],exact:=false })::qaX H os ls):=rfl
section
variable (vs ds:List AVal)
theorem qpd:qaq [] ds=[]:=by cases ds<;>rfl
theorem qpe (o g i j cs):qaq (.ptr o g i j::vs) (.uptr cs::ds)=o::qaq vs ds:=rfl
theorem ql8 (o g i j cs):qaq (.ptr o g i j::vs) (.iptr cs::ds)=qaq vs ds:=rfl
theorem qpf (k n d):qaq (.int k n::vs) (d::ds)=qaq vs ds:=rfl
theorem ql9 (b d):qaq (.bool b::vs) (d::ds)=qaq vs ds:=rfl
theorem qpg (b d):qaq (.str b::vs) (d::ds)=qaq vs ds:=rfl
theorem qrO (b d):qaq (.sc b::vs) (d::ds)=qaq vs ds:=rfl
theorem qph (b d):qaq (.agg b::vs) (d::ds)=qaq vs ds:=rfl
theorem qrP (f a b d):qaq (.fn f a b::vs) (d::ds)=qaq vs ds:=rfl
theorem qki (st es d):qaq (.slice st es::vs) (d::ds)=qaq vs ds:=rfl
theorem qpi (o g i n d):qaq (.osl o g i n::vs) (d::ds)=qaq vs ds:=rfl
theorem qma (cs d):qaq (.iptr cs::vs) (d::ds)=qaq vs ds:=rfl
variable (H:qac) (k:Nat)
theorem qvu (ms):qb3 H ms k [] ds=[]:=by cases ds<;>rfl
theorem qvv (ms o g i n st es):qb3 H ms k (.osl o g i n::vs) (.usl st es::ds)=if (H o).exact=true∧n=(H o).rows.length then k::qb3 H ms.tail (k+1) vs ds else qb3 H ms.tail (k+1) vs ds:=rfl
theorem qrQ (ms o g i n st es):qb3 H ms k (.osl o g i n::vs) (.slice st es::ds)=qb3 H ms.tail (k+1) vs ds:=rfl
theorem qvw (ms o g i j d):qb3 H ms k (.ptr o g i j::vs) (d::ds)=qb3 H ms.tail (k+1) vs ds:=by simp [qb3]
theorem qvx (ms a n d):qb3 H ms k (.int a n::vs) (d::ds)=qb3 H ms.tail (k+1) vs ds:=by simp [qb3]
theorem qrR (ms b d):qb3 H ms k (.bool b::vs) (d::ds)=qb3 H ms.tail (k+1) vs ds:=by simp [qb3]
theorem qvy (ms b d):qb3 H ms k (.str b::vs) (d::ds)=qb3 H ms.tail (k+1) vs ds:=by simp [qb3]
theorem qvz (ms b st es):qb3 H ms k (.sc b::vs) (.slice st es::ds)=qb3 H ms.tail (k+1) vs ds:=by simp [qb3]
theorem qvA (ms b st es):qb3 H ms k (.sc b::vs) (.usl st es::ds)=if ms.headD 0=2∧qq1 (.sc b)=true then k::qb3 H ms.tail (k+1) vs ds else qb3 H ms.tail (k+1) vs ds:=by simp only [qb3]
theorem qpj:qq1 (.sc (.slice none 0 0))=true:=rfl
theorem qvB (ms b d):qb3 H ms k (.agg b::vs) (d::ds)=qb3 H ms.tail (k+1) vs ds:=by simp [qb3]
theorem qzT (ms f a b d):qb3 H ms k (.fn f a b::vs) (d::ds)=qb3 H ms.tail (k+1) vs ds:=by simp [qb3]
theorem qpk (ms st es d):qb3 H ms k (.slice st es::vs) (d::ds)=qb3 H ms.tail (k+1) vs ds:=by simp [qb3]
theorem qrS (ms cs d):qb3 H ms k (.iptr cs::vs) (d::ds)=qb3 H ms.tail (k+1) vs ds:=by simp [qb3]
theorem qpl:qcY H [] []=true:=rfl
theorem qmb (o os cs ls):qcY H (o::os) (.uptr cs::ls)=(decide (cs.length=(H o).st)&&qcY H os ls):=rfl
end
theorem qpm:qcI []=true:=rfl
theorem qpn (x):qcI [x]=true:=by simp [qcI]
theorem qmc (x y:Nat) (xs):qcI (x::y::xs)=(!(y::xs).contains x&&qcI (y::xs)):=rfl
theorem qpo (b):qdM [] b=true:=rfl
theorem qrT (u):qdM u []=true:=by simp [qdM]
theorem qmd (x xs b):qdM (x::xs) b=(!b.contains x&&qdM xs b):=by simp [qdM]
section
variable (own:Bool) (ks:List Nat)
theorem qvC (k n):qga own ks (.int k n)= .int k n:=by simp [qga,qhW]
theorem qrU (b):qga own ks (.bool b)= .bool b:=by simp [qga,qhW]
theorem qvD (l):qga own ks (.str l)= .str l:=by simp [qga,qhW]
theorem qpp (st es):qga own ks (.slice st es)= .slice st es:=by simp [qga,qhW]
theorem qvE (st es):qga own ks (.usl st es)= .usl st es:=by simp [qga,qhW]
theorem qrV (cs):qga own ks (.uptr cs)= .uptr cs:=by simp [qga,qhW]
theorem qrW (cs):qga own ks (.iptr cs)= .iptr cs:=by simp [qga,qhW]
theorem qzU (f a c):qga own ks (.fn f a c)= .fn f a c:=by simp [qga,qhW]
theorem qvF (k ks):qga own ((k+1)::ks) (.sc (.slice none 0 0))=if own=true then .usl k [] else .slice k []:=rfl
theorem qvG (cs):qga own ks (.agg cs)= .agg (qoz own ks cs):=rfl
theorem qrX:qoz own ks []=[]:=by cases ks<;>rfl
theorem qrY (k v vs):qoz own (k::ks) (v::vs)=qhW own k v::qoz own ks vs:=rfl
variable (k:Nat)
theorem qrZ (v):qhW own 0 v=v:=by unfold qhW;split<;>first | contradiction | rfl
theorem qpq (st es):qhW own k (.slice st es)= .slice st es:=by simp [qhW]
theorem qvH (st es):qhW own k (.usl st es)= .usl st es:=by simp [qhW]
theorem qvI:qhW own (k+1) (.sc (.slice none 0 0))=if own=true then .usl k [] else .slice k []:=rfl
end
def qF4 (f:Nat→AVal) (H:qac) [K:Hold (Cf×List ResultVar×List Nat×List (List Nat)×List AVal)]:Option Res:=qxP K.val.1.E K.val.2.1 K.val.2.2.1 K.val.2.2.2.1 K.val.2.2.2.2 f H
def qE (C:Cf) (rvs:List ResultVar) (ms:List Nat) (kss:List (List Nat)) (ds:List AVal):Exit→St→Option Res:=fun e s=>if qfZ e=true then qxP C.E rvs ms kss ds s.fr s.H else none
section
variable (C:Cf) (rvs:List ResultVar) (ms:List Nat) (kss:List (List Nat)) (ds:List AVal) (f:Nat→AVal) (H:qac)
theorem qKg:qE C rvs ms kss ds .normal ⟨f,H⟩=@qF4 f H ⟨(C,rvs,ms,kss,ds)⟩:=rfl
theorem qKh:qE C rvs ms kss ds .ret ⟨f,H⟩=@qF4 f H ⟨(C,rvs,ms,kss,ds)⟩:=rfl
def kRv (f:Nat→AVal) (H:qac) (rvs:List ResultVar) [K:Hold (Cf×List AVal×(List AVal→Option Res))]:Option Res:=(qqe K.val.1.E f H rvs).bind fun vs=>K.val.2.2 (K.val.2.1++vs)
theorem qzV:@qF4 f H ⟨(C,rvs,ms,kss,ds)⟩=@kRv f H rvs ⟨(C,[],fun vs=>@kB _ _ (qj0 H ms kss vs) ⟨fun p=>@kB _ _ (qhq H (qa3 0 ds)) ⟨fun q=>
  @kG _ (qcI (p.2.1++q.2.1)=true) _ ⟨@kG _ (qdM (p.2.1++q.2.1) (p.2.2++q.2.2)=true) _ ⟨some (p.1,q.1)⟩⟩⟩⟩)⟩:=by
 simp only [qF4,qxP,kRv,kB,kG,gu,List.nil_append]
theorem qzW (acc Q):@kRv f H [] ⟨(C,acc,Q)⟩=Q acc:=by simp [kRv,qqe]
theorem qzX (t rest acc Q):@kRv f H (.tmp t::rest) ⟨(C,acc,Q)⟩=@kRv f H rest ⟨(C,acc++[f t],Q)⟩:=by
 simp [kRv,qqe,rvE,Option.bind_assoc]
theorem qvJ (x t rest acc Q):@kRv f H (.cell x t::rest) ⟨(C,acc,Q)⟩=@kB _ _ (C.E.P.szO t) ⟨fun n=>@kB _ _ (C.E.P.rowO t) ⟨fun g=>@kG _ (g=false→n=1) _ ⟨@kB _ _ (qfW H g n (f x)) ⟨fun q=>@kRv f H rest ⟨(C,acc++[q.1],Q)⟩⟩⟩⟩⟩:=by
 simp only [kRv,qqe,rvE,qyZ,kB,kG,gu,Option.bind_assoc]
 congr 1;funext n;congr 1;funext g
 split
 ·simp only [Option.bind_assoc,Option.bind_some,List.append_assoc,List.cons_append,List.nil_append]
 ·rfl
end
section
variable {β:Type} (H:qac)
theorem qvK (ms kss v) (K:Pko→Option β):@kB _ _ (qj0 H ms kss [v]) ⟨K⟩=@kB _ _ (qjS H (ms.headD 0) (kss.headD []) v) ⟨K⟩:=rfl
theorem qvL (ms kss) (K:Pko→Option β):@kB _ _ (qj0 H ms kss []) ⟨K⟩=K (.tup [],[],[]):=rfl
theorem qvM (ms kss v w vs) (K:Pko→Option β):@kB _ _ (qj0 H ms kss (v::w::vs)) ⟨K⟩=@kB _ _ (qfX H ms kss (v::w::vs)) ⟨fun p=>K (.tup p.1,p.2)⟩:=by
 simp only [qj0,kB,kG,gu,qal,Option.bind_assoc,Option.bind_some]
theorem qme (K:_→Option β):@kB _ _ (qhq H []) ⟨K⟩=K ([],[],[]):=rfl
theorem qkj (v vs) (K:_→Option β):@kB _ _ (qhq H (v::vs)) ⟨K⟩=@kB _ _ (pkO H 4 v) ⟨fun p=>@kB _ _ (qhq H vs) ⟨fun q=>K (p.1::q.1,p.2.1++q.2.1,p.2.2++q.2.2)⟩⟩:=by
 simp only [qhq,kB,kG,gu,qal,Option.bind_assoc,Option.bind_some]
theorem qpr (k):qa3 k []=[]:=rfl
theorem qmf (k cs ds):qa3 k (.uptr cs::ds)= .ptr (k+1) 1 0 0::qa3 (k+1) ds:=rfl
theorem qps (k a n ds):qa3 k (.int a n::ds)=qa3 (k+1) ds:=rfl
theorem qmg (k b ds):qa3 k (.bool b::ds)=qa3 (k+1) ds:=rfl
theorem qpt (k b ds):qa3 k (.str b::ds)=qa3 (k+1) ds:=rfl
theorem qr0 (k b ds):qa3 k (.sc b::ds)=qa3 (k+1) ds:=rfl
theorem qpu (k b ds):qa3 k (.agg b::ds)=qa3 (k+1) ds:=rfl
theorem qr1 (k f a b ds):qa3 k (.fn f a b::ds)=qa3 (k+1) ds:=rfl
theorem qkk (k st es ds):qa3 k (.slice st es::ds)=qa3 (k+1) ds:=rfl
theorem qpv (k st es ds):qa3 k (.usl st es::ds)=qa3 (k+1) ds:=rfl
theorem qmh (k cs ds):qa3 k (.iptr cs::ds)=qa3 (k+1) ds:=rfl
end
def Cf.at (C:Cf) (f:FuncId):Cf:=⟨C.E,C.M.at f,C.X⟩
theorem qKi (C:Cf) (f):(C.at f).E=C.E:=Eq.trans rfl rfl
theorem qKj (C:Cf) (f):(C.at f).X=C.X:=Eq.trans rfl rfl
theorem qCC (C:Cf) (f):(C.at f).M.par=C.M.par:=Eq.trans rfl rfl
theorem qCD (C:Cf) (f):(C.at f).M.res=C.M.res:=Eq.trans rfl rfl
theorem qCE (C:Cf) (f):(C.at f).M.loc=C.M.loc:=Eq.trans rfl rfl
theorem qCF (C:Cf) (f):(C.at f).M.cur=C.M.nl f:=Eq.trans rfl rfl
theorem qzY (C:Cf) (f):(C.at f).M.base=0:=Eq.trans rfl rfl
theorem qzZ (C:Cf) (f):(C.at f).M.inls=C.M.inls:=Eq.trans rfl rfl
theorem qGW (C:Cf) (f):(C.at f).M.gh=C.M.gh:=Eq.trans rfl rfl
theorem qGX (C:Cf) (f):(C.at f).M.nl=C.M.nl:=Eq.trans rfl rfl
def Cf.inat (C:Cf) (f:FuncId):Cf:=⟨C.E,C.M.inat f,C.X⟩
theorem qCG (C:Cf) (f):(C.inat f).E=C.E:=Eq.trans rfl rfl
theorem qCH (C:Cf) (f):(C.inat f).X=C.X:=Eq.trans rfl rfl
theorem qvN (C:Cf) (f):(C.inat f).M.par=C.M.par:=Eq.trans rfl rfl
theorem qvO (C:Cf) (f):(C.inat f).M.res=C.M.res:=Eq.trans rfl rfl
theorem qvP (C:Cf) (f):(C.inat f).M.loc=C.M.loc:=Eq.trans rfl rfl
theorem qvQ (C:Cf) (f):(C.inat f).M.cur=C.M.nl f:=Eq.trans rfl rfl
theorem qr2 (C:Cf) (f):(C.inat f).M.base=qi5 C.M.inls f:=Eq.trans rfl rfl
theorem qr3 (C:Cf) (f):(C.inat f).M.inls=C.M.inls:=Eq.trans rfl rfl
theorem qz0 (C:Cf) (f):(C.inat f).M.gh=C.M.gh:=Eq.trans rfl rfl
theorem qz1 (C:Cf) (f):(C.inat f).M.nl=C.M.nl:=Eq.trans rfl rfl
theorem qz2 (C:Cf) (f):fn (C.inat f)=fn C:=quM f
theorem qz3 (C:Cf) (f):il (C.inat f)=il C:=quN f
theorem qGY (C:Cf) (f):il (C.at f)=il C:=qCg f
theorem qr4 (C:Cf) (f g):(C.inat f).inat g=C.inat g:=rfl
theorem qz4 (C:Cf) (f g):(C.at f).inat g=C.inat g:=rfl
theorem qvR (f):qi5 [] f=0:=Eq.trans rfl rfl
theorem qr5 (p l f):qi5 (p::l) f=if p.1=f then p.2 else qi5 l f:=Eq.trans rfl rfl
theorem qvS (d):shD 0 d=d:=Eq.trans rfl rfl
theorem qvT (b:Nat) (d:Tmp):shD (b+1) (some d)=some (b+1+d):=Eq.trans rfl rfl
theorem qvU (b:Nat):shD (b+1) none=some (b+1):=Eq.trans rfl rfl
theorem qvV (d ρ O):ghO none d ρ O=O:=Eq.trans rfl rfl
def qI {β:Type} (C:Cf) (rvs:List ResultVar) (K:AVal×qac→Option β):Exit→St→Option β:=fun e s=>if qfZ e=true then (qqe C.E s.fr s.H rvs).bind fun vs=>K (qfe vs,s.H) else none
theorem qKk (C rvs) (K:AVal×qac→Option Res) (f H):qI C rvs K .normal ⟨f,H⟩=@kRv f H rvs ⟨(C,[],fun vs=>K (qfe vs,H))⟩:=by simp [qI,qfZ,kRv]
theorem qKl (C rvs) (K:AVal×qac→Option Res) (f H):qI C rvs K .ret ⟨f,H⟩=@kRv f H rvs ⟨(C,[],fun vs=>K (qfe vs,H))⟩:=by simp [qI,qfZ,kRv]
theorem qr6:qfe []= .tup []:=rfl
theorem qCI (vals:List AVal):frm vals=frame 0 vals:=by
 funext t
 unfold frm
 rw [qil];simp
theorem qaD {C:Cf} {f:FuncId} {g:Func} {code:Code} {rvs:List ResultVar} (hf:C.E.P.funcs[f]?=some g) (hb:g.body=some code) (hr:g.results=List.toArray rvs) {lo:Nat} (hlo:C.M.loc f=lo) {vals H}
  (hok:quE g code vals=true) (K:AVal×qac→Option Res):@kB _ _ (il C f vals H) ⟨K⟩=dw (C.inat f) lo code (qI C rvs K) ⟨frame 0 vals,H⟩:=by
 unfold il
 rw [qCi f vals H (by simp [Program.exFn,hf,hb]),hf]
 simp only [Option.bind_some,hb,gu,hok,if_true,dw,hlo,hr,List.toList_toArray,kB,Option.bind_assoc,qCI]
 congr 1
 funext p
 simp only [qI]
 by_cases h:qfZ p.1=true<;>simp [h,Option.bind_assoc]
theorem qvW (P:Program) (f:FuncId):P.inFn f=(P.goFn f|| P.exFn f):=Eq.trans rfl rfl
theorem qGZ {C:Cf} {f:FuncId} (hx:C.E.P.exFn f=true) (ho:OvF C.E.P f) {o1 g1 i1 n1 o2 g2 i2 n2 H} (K:AVal×qac→Option Res):@kB _ _ (il C f [.osl o1 g1 i1 n1,.osl o2 g2 i2 n2] H) ⟨K⟩=
  @kG _ (¬o1=o2) _ ⟨@kG _ (1≤n1) _ ⟨@kG _ (1≤n2) _ ⟨@kG _ ((H o1).gen=g1) _ ⟨@kG _ ((H o1).mode= .live) _ ⟨@kG _ (2≤(H o1).st) _ ⟨@kG _ ((H o2).gen=g2) _ ⟨@kG _ ((H o2).mode= .live) _ ⟨@kG _ (2≤(H o2).st) _ ⟨K (.bool false,H)⟩⟩⟩⟩⟩⟩⟩⟩⟩:=by
 unfold il
 rw [qCh hx]
 simp only [ovE]
 have e:@gu _ (OvF C.E.P f) (Classical.propDecidable _)=fun x:Option (AVal×qac)=>x:=by
  funext x
  exact if_pos ho
 rw [e]
 have l:∀(p:Prop) [Decidable p] (x:Option (AVal×qac)) (y:Option Res),x.bind K=y→(gu p x).bind K=@kG _ p _ ⟨y⟩:=fun p _ x y h=>by
  unfold gu kG;split
  ·exact h
  ·rfl
 exact l _ _ _ (l _ _ _ (l _ _ _ (l _ _ _ (l _ _ _ (l _ _ _ (l _ _ _ (l _ _ _ (l _ _ _ rfl))))))))
theorem qG0 (C:Cf) (f):fn (C.at f)=fn C:=qCf f
theorem qz5 {C:Cf} {f} (h:C.M.nl f=C.M.cur) (h2:C.M.base=0):C.at f=C:=by
 obtain ⟨E,M,X⟩:=C
 obtain ⟨a1,a2,a3,a4,a5,a6,a7,a8⟩:=M
 simp only at h h2
 subst h2
 simp only [Cf.at,Mds.at,h]
section
variable {β:Type}
def kN (m:Nat) (v:AVal) (d:Option Tmp) (H:qac) [K:Hold (Out→Option β)]:Option β:=
 match m with
 | 0=>K.val (v,[],[])
 | k+1=>match v with
  | .sc (.slice none 0 0)=>K.val (.osl (qan d) ((H (qan d)).gen+1) 0 0,[qan d],[(qan d,qai H (qan d) k [])])
  | v=>K.val (v,[],[])
theorem qCJ (M H v) (K:Out→Option β):@kB _ _ (qyX M none H v) ⟨K⟩=K (v,[],[]):=rfl
theorem qCK (M H v) (d:Tmp) (K:Out→Option β):@kB _ _ (qyX M (some d) H v) ⟨K⟩=@kN _ (nlk M.cur d) v (shD M.base (some d)) H ⟨K⟩:=by
 show (qyX M (some d) H v).bind K=_
 have e:qyX M (some d) H v=(match nlk M.cur d with
  | 0=>some (v,[],[])
  | k+1=>match v with
   | .sc (.slice none 0 0)=>some (.osl (qan (shD M.base (some d))) ((H (qan (shD M.base (some d)))).gen+1) 0 0,[qan (shD M.base (some d))],[(qan (shD M.base (some d)),qai H (qan (shD M.base (some d))) k [])])
   | v=>some (v,[],[])):=rfl
 rw [e]
 unfold kN
 cases nlk M.cur d with
 | zero=>rfl
 | succ k=>
  cases v<;>try rfl
  rename_i x
  cases x<;>try rfl
  rename_i a n m
  cases a<;>cases n<;>cases m<;>rfl
theorem qz6 (v d H) (K:Out→Option β):@kN _ 0 v d H ⟨K⟩=K (v,[],[]):=rfl
theorem qCL (k d H) (K:Out→Option β):@kN _ (k+1) (.sc (.slice none 0 0)) d H ⟨K⟩=K (.osl (qan d) ((H (qan d)).gen+1) 0 0,[qan d],[(qan d,qai H (qan d) k [])]):=rfl
theorem qCM (m d H o g i n) (K:Out→Option β):@kN _ m (.osl o g i n) d H ⟨K⟩=K (.osl o g i n,[],[]):=by cases m<;>rfl
theorem qvX (m d H st es) (K:Out→Option β):@kN _ m (.slice st es) d H ⟨K⟩=K (.slice st es,[],[]):=by cases m<;>rfl
end
theorem qz7 (t):nlk [] t=0:=Eq.trans rfl rfl
theorem qvY (p l t):nlk (p::l) t=if p.1=t then p.2+1 else nlk l t:=Eq.trans rfl rfl
theorem qah {C:Cf} {f:FuncId} {g:Func} {code:Code} {rvs:List ResultVar} {ms kss} (hf:C.E.P.funcs[f]?=some g) (hX:C.X f=none) (hb:g.body=some code) (hr:g.results=List.toArray rvs) {lo:Nat} (hlo:C.M.loc f=lo) (hms:C.M.res f=ms) (hks:C.E.P.resK f=kss) {ex ds}
  (hok:qek g code ex ds=true):fn C f ex ds=dw (C.at f) lo code (qE C rvs ms kss ds) ⟨frame 0 (qaU qac.nil 0 0 ds),qfJ ex (qac.nil.setAll (qa9 qac.nil 0 0 ds))⟩:=by
 unfold fn
 rw [qxR,hX,hf]
 simp only [Option.bind_some,hb,gu,hok,if_true,dw,hlo,hms,hks,hr,List.toList_toArray]
 unfold qhM
 rw [Am.start_eq]
 rfl
theorem qaa {C:Cf} {f:FuncId} {g:Func} {code:Code} {rvs:List ResultVar} {ms kss} (hf:C.E.P.funcs[f]?=some g) (hX:C.X f=none) (hb:g.body=some code) (hr:g.results=List.toArray rvs) {lo:Nat} (hlo:C.M.loc f=lo) (hms:C.M.res f=ms) (hks:C.E.P.resK f=kss) {ex ds}
  (hok:qek g code ex ds=true) (hnl:C.M.nl f=C.M.cur:=by rfl) (hb0:C.M.base=0:=by rfl):fn C f ex ds=dw C lo code (qE C rvs ms kss ds) ⟨frame 0 (qaU qac.nil 0 0 ds),qfJ ex (qac.nil.setAll (qa9 qac.nil 0 0 ds))⟩:=by
 have:=qah hf hX hb hr hlo hms hks hok
 rw [qz5 hnl hb0]at this
 exact this
theorem qbC {C:Cf} {f:FuncId} {g} (hX:C.X f=some g) (ex ds):fn C f ex ds=g ex ds:=by
 unfold fn
 rw [qxR,hX]
theorem qvZ (b):fnJ (.bool b)= .bool b:=rfl
theorem qz8 (k n):fnJ (.int k n)= .int k n:=rfl
theorem qz9 (l):fnJ (.str l)= .str l:=rfl
theorem qCN (v):fnJ (.sc v)= .sc v:=rfl
theorem qv0 (cs):fnJ (.iptr cs)= .iptr cs:=rfl
theorem qr7 (st es):fnJ (.slice st es)= .slice st es:=rfl
theorem qv1:fnJ (.junk)= .junk:=rfl
theorem qAa (cs):fnJ (.agg cs)= .agg cs:=rfl
theorem qAb (cs):fnJ (.tup cs)= .tup cs:=rfl
theorem qAc (o g i n):fnJ (.osl o g i n)= .osl o g i n:=rfl
theorem qAd (o g i j):fnJ (.ptr o g i j)= .ptr o g i j:=rfl
theorem qAe (st es):fnJ (.usl st es)= .usl st es:=rfl
theorem qCO (f fs cs):fnJ (.fn f fs cs)= .junk:=rfl
theorem qv2:qqc []=[]:=rfl
theorem qr8 (v vs):qqc (v::vs)=fnJ v::qqc vs:=rfl
attribute [go_sem] qv2 qr8 qCO qvZ qz8 qz9 qCN qv0 qr7 qv1 qAa qAb qAc qAd qAe
attribute [congr] quQ
attribute [go_sem ↓] quO qrg qy6 qzb quT qzc qCl qCm qzd quU quV qCn qCo qCp qze qzf qzg qri qzh qzi qzj qCq qCr qCs qCt qrk qCu qzk qCx qu7 qCy qzD qGQ qzE qkb qlS qkc qlT qkd qCz qzF qoO qzG qCA qGR qrp qoP qlU qzH qlV qzI qlW qzJ qru qGS qGT qGU qvd qzK qGV qCB qCJ qCK qKi qKj qCC qCD qCE qCF qzY qzZ qGW qGX qCG qCH qvN qvO qvP qvQ qr2 qr3 qz0 qz1 qr4 qz4 qz2 qz3 qGY qG0 qKk qKl qKg qKh qzV qzW qzX qvJ
attribute [go_sem] qvW Bool.true_or qvR qr5 qvS qvT qvU qvV qzm qzn qr6 qjb qjc qz6 qCL qCM qvX qz7 qvY qrs qrt qrm qrn qu8 qro qoM qoN qu9 qva qvb qvc qke qkf qrq qrr ql1 qo1 qo2 qiN qzL qvf qzM qza quS qy4 qy5 qGO qy9 qCj qGP qy7 quR qy8 qzo qzp qzq qrl qzr qzs qzt quX qCv quY qiM qzu qzv qzw quZ qlO qlP qlQ qu0 qu1 qu2 qzx qzy qzz qCw qoH qlR qj4 qu3 qj5 qj6 qj7 qu4 qj8 qj9 qka qu5 qu6 qoI qoJ qoK qoL qzA qzB qzC qrv qoQ qoR qoS qlX qrw qf0 qhr qhs qgO qoT qoU qve qoV qkg qoW qoX qrx qry qlY qvg qoY qvh qoZ qvi qvj qvk qrz qvl qo0 qvm qvn qzN qlZ ql0 qo3 qvo qrB qzO ql2 qkh qzP qo4 qrC qrD qvp qo5 ql3 qrE qvq qrF qrG qrH qo6 qvr qo7 ql4 qo8 qrI qrJ qvs ql5 qo9 qrK qrL qrM qzQ qpa ql6 qzR qvt qrN qzS qnl qpb qpc ql7 qpd qpe ql8 qpf ql9 qpg qrO qph qrP qki qpi qma qvu qvv qrQ qvw qvx qrR qvy qvz qvA qpj qvB qzT qpk qrS qpl qmb qpm qpn qmc qpo qrT qmd qvC qrU qvD qpp qvE qrV qrW qzU qvF qvG qrX qrY qrZ qpq qvH qvI qvK qvL qvM qme qkj qpr qmf qps qmg qpt qr0 qpu qr1 qkk qpv qmh List.headD_cons List.headD_nil List.tail_cons List.tail_nil qfr qrj qlN quW qoG qja qhw qn9 qk2
theorem qpw (b):(AVal.bool b).plain=true:=rfl
theorem qr9 (k n):(AVal.int k n).plain=true:=rfl
theorem qsa (l):(AVal.str l).plain=true:=rfl
theorem qv3 (v):(AVal.sc v).plain=true:=rfl
theorem qpx (cs):(AVal.iptr cs).plain=true:=rfl
theorem qmi (st es):(AVal.slice st es).plain=true:=rfl
theorem qpy:AVal.junk.plain=true:=rfl
theorem qsb (cs):(AVal.agg cs).plain=false:=rfl
theorem qsc (o g i n):(AVal.osl o g i n).plain=false:=rfl
theorem qsd (o g i n):(AVal.ptr o g i n).plain=false:=rfl
theorem qv4 (f a b):(AVal.fn f a b).plain=false:=rfl
theorem qse (a):(AVal.tup a).plain=false:=rfl
theorem qAf (cs):(AVal.agg cs).clo=qbN cs:=rfl
theorem qAg (l):(AVal.str l).clo=true:=rfl
theorem qAh (k n):(AVal.int k n).clo=true:=rfl
theorem qv5 (b):(AVal.bool b).clo=true:=rfl
theorem qCP (b):(AVal.sc b).clo=true:=rfl
theorem qsf (st es):(AVal.slice st es).clo=true:=rfl
theorem qv6 (cs):(AVal.iptr cs).clo=true:=rfl
theorem qAi (o g i n):(AVal.osl o g i n).clo=false:=rfl
theorem qAj (o g i n):(AVal.ptr o g i n).clo=false:=rfl
theorem qCQ (f a c):(AVal.fn f a c).clo=false:=rfl
theorem qv7:qbN []=true:=rfl
theorem qsg (v vs):qbN (v::vs)=(v.clo&&qbN vs):=rfl
theorem qv8 (cs):(AVal.agg cs).flat=qbZ cs:=rfl
theorem qv9 (cs):(AVal.tup cs).flat=qbZ cs:=rfl
theorem qwa (l):(AVal.str l).flat=true:=rfl
theorem qwb (k n):(AVal.int k n).flat=true:=rfl
theorem qsh (b):(AVal.bool b).flat=true:=rfl
theorem qAk (b):(AVal.sc b).flat=true:=rfl
theorem qpz (st es):(AVal.slice st es).flat=false:=rfl
theorem qwc (st es):(AVal.usl st es).flat=qck es:=rfl
theorem qsi (cs):(AVal.uptr cs).flat=qbZ cs:=rfl
theorem qsj (cs):(AVal.iptr cs).flat=false:=rfl
theorem qAl (f a c):(AVal.fn f a c).flat=false:=rfl
theorem qsk:qbZ []=true:=rfl
theorem qpA (v vs):qbZ (v::vs)=(v.flat&&qbZ vs):=rfl
theorem qpB:qck []=true:=rfl
theorem qmj (v vs):qck (v::vs)=(qbZ v&&qck vs):=rfl
theorem qbU {α:Type} (f:α→List AVal) (h:∀x,qbZ (f x)=true):∀l:List α,qck (l.map f)=true
 | []=>rfl
 | x::l=>by simp [qck,h x,qbU f h l]
theorem qaV {α:Type} (f:α→List AVal) (h:∀x,qbN (f x)=true) (l:List α):(l.map f).all qbN=true:=by simp [h]
theorem qmk (l:List UInt8):qck (l.map qab)=true:=qbU _ (fun _=>rfl) l
theorem qkl (l:List UInt8):(l.map qab).all qbN=true:=qaV _ (fun _=>rfl) l
theorem qsl (l:List UInt8):qcb (l.map qab)=true:=qcu _ l fun _=>rfl
attribute [go_sem] qpw qr9 qsa qv3 qpx qmi qpy qsb qsc qsd qv4 qse qAf qAg qAh qv5 qCP qsf qv6 qAi qAj qCQ qv7 qsg qv8 qv9 qwa qwb qsh qAk qpz qwc qsi qsj qAl qsk qpA qpB qmj qmk qkl qsl List.all_append Bool.and_self
end Go.Am
