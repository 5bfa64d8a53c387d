import Derived.Test.YtnpkhdjgedeppaaGreatDoorAm10
namespace Go.Am
theorem qcr {α:Type} [BEq α] [LawfulBEq α] [DecidableEq α] (a b:α):(a == b)=decide (a=b):=by
 by_cases h:a=b<;>simp [h]
class Hold (α:Type) where
 val:α
def qrt (p:Prop) [K:Hold Prop]:Prop:=p∧K.val
theorem qoX {p A:Prop} (h1:p) (h2:A):@qrt p ⟨A⟩:=⟨h1,h2⟩
section
variable {α:Type}
def qAa (v:Option α) [K:Hold (α→Prop)]:Prop:=qaJ v K.val
def qJj (v:AVal) [K:Hold (Bool→Prop)]:Prop:=qu6 v K.val
def qzi (v:AVal) [K:Hold (IntKind→Int→Prop)]:Prop:=qrp v K.val
end
section
variable (E:Env) (Q:Exit→St→Prop) (f:Nat→AVal) (H:qac) (s:St)
end
def gd (ops:Array Oper) (j:Nat):Option Tmp:=(ops[j]?).bind (·.dst)
theorem qAb (o:Oper) (l:List Oper):gd ⟨o::l⟩ 0=o.dst:=rfl
theorem qru (o:Oper) (l:List Oper) (n:Nat):gd ⟨o::l⟩ (n+1)=gd ⟨l⟩ n:=by simp [gd]
section
variable (E:Env) (ops:Array Oper) (f:Nat→AVal) (H:qac)
end
section
variable (Γ:Nat→Option (List AVal)) (f:Nat→AVal)
theorem qDX (t):ev Γ f (.tmp t)=f t:=rfl
theorem qDY (k n):ev Γ f (.const (.int k n))= .int k n:=rfl
theorem qAc (b):ev Γ f (.const (.bool b))= .bool b:=rfl
theorem qDZ (l):ev Γ f (.const (.string ⟨⟨l⟩⟩))= .str l:=rfl
theorem qAd:ev Γ f (.const (.pointer none))= .sc (.pointer none):=rfl
theorem qAe:ev Γ f (.const (.slice none 0 0))= .sc (.slice none 0 0):=rfl
theorem qD0 (l):ev Γ f (.const (.agg ⟨l⟩))= .agg (l.map qra):=rfl
theorem qAf (g):ev Γ f (.func g)= .fn (.func g) [] []:=rfl
theorem qu8 (k n):qra (.int k n)= .int k n:=rfl
theorem qrv (b):qra (.bool b)= .bool b:=rfl
theorem qu9 (l):qra (.string ⟨⟨l⟩⟩)= .str l:=rfl
theorem qrw:qra (.pointer none)= .sc (.pointer none):=rfl
theorem qrx:qra (.slice none 0 0)= .sc (.slice none 0 0):=rfl
theorem qry (t v):qaF f (some t) v=upd f t v:=rfl
theorem qrz (v):qaF f none v=f:=rfl
theorem qD1 (t v k):upd f t v k=if k=t then v else f k:=rfl
theorem qAg (t v v'):upd (upd f t v) t v'=upd f t v':=by funext k;simp only [upd];split<;>rfl
end
section
variable (P:Program) (H:qac)
def qoY (P:Program) (H:qac) (t:TypeId) (p:AVal) (n:Int) [K:Hold qeb]:Prop:=qec P H t p n K.val
def qD2 (P:Program) (t:TypeId) (p:AVal) (n:Int) [K:Hold qeb]:Prop:=qn7 P t p n K.val
def qzj (P:Program) (H:qac) (t:TypeId) (p:AVal) (lo hi:Option AVal) [K:Hold qeb]:Prop:=qn8 P H t p lo hi K.val
def qM3 (P:Program) (H:qac) (t u:TypeId) (dst:Option Tmp) (s x:AVal) [K:Hold qeb]:Prop:=match x with | .int _ k=>qjZ P H t u dst s k K.val | x=>qiY P H t u dst s x K.val
variable (K:qeb)
def qrA (P:Program) (t:TypeId):Option IntKind:=match P.underlying t with | some (.int k)=>some k | _=>none
end
section
variable (E:Env) (d:Option Tmp) (ρ:Operand→AVal) (H:qac) (K:qeb)
theorem qva (c a b):opX E (.pick c a b) d ρ H K=@qJj (ρ c) ⟨fun t=>K (if t=true then ρ a else ρ b) [] []⟩:=rfl
def qoZ:AVal→Bool | .ptr _ _ _ _=>true | .iptr _=>true | _=>false
theorem qrB (o g i j):qoZ (.ptr o g i j)=true:=rfl
theorem qo0 (cs):qoZ (.iptr cs)=true:=rfl
theorem qj0 (x):opX E (.nilCheck x) d ρ H K=@qrt (qoZ (ρ x)=true) ⟨K (ρ x) [] []⟩:=by
 simp only [opX,qrt]
 cases ρ x<;>simp [qoZ]
theorem qiZ (t l c):opX E (.makeSlice t l c) d ρ H K=@qzi (ρ l) ⟨fun _ nl=>@qzi (ρ c) ⟨fun _ nc=>@qrt (0≤nl) ⟨@qrt (nl≤nc) ⟨@qAa _ (E.P.elemO t) ⟨fun size=>@qrt (0<size) ⟨@qAa _ (E.P.elemBytes t) ⟨fun bytes=>@qAa _ (E.P.elemZero t) ⟨fun z=>@qrt (z.length=size) ⟨
   @qrt ((bytes:Int) * nc≤281474976710656) ⟨@qrt (nc≤9223372036854775807) ⟨K (.osl (qan d) ((H (qan d)).gen+1) 0 nl.toNat) [qan d] [(qan d,qbr H (qan d) size (List.replicate nl.toNat z) (decide (nl=nc)))]⟩⟩⟩⟩⟩⟩⟩⟩⟩⟩⟩:=rfl
theorem qrC (t x lo hi):opX E (.slice t x lo hi none) d ρ H K=@qzj E.P H t (ρ x) (lo.map ρ) (hi.map ρ) ⟨K⟩:=by simp [opX,qzj]
theorem qi0 (t x i):opX E (.indexAddr t x i) d ρ H K=@qzi (ρ i) ⟨fun _ n=>@qrt (0≤n) ⟨@qoY E.P H t (ρ x) n ⟨K⟩⟩⟩:=rfl
theorem qrD (t x i):opX E (.index t x i) d ρ H K=@qzi (ρ i) ⟨fun _ n=>@qrt (0≤n) ⟨@qD2 E.P t (ρ x) n ⟨K⟩⟩⟩:=rfl
theorem qAh (x y t):opX E (.call ⟨.builtin .max,#[x,y],t⟩) d ρ H K=@qzi (ρ x) ⟨fun k a=>@qzi (ρ y) ⟨fun _ b=>K (.int k (if b>a then b else a)) [] []⟩⟩:=rfl
theorem qAi (x y t):opX E (.call ⟨.builtin .min,#[x,y],t⟩) d ρ H K=@qzi (ρ x) ⟨fun k a=>@qzi (ρ y) ⟨fun _ b=>K (.int k (if b<a then b else a)) [] []⟩⟩:=rfl
theorem qo1 {x y t u} (h:@qM3 E.P H t u d (ρ x) (ρ y) ⟨K⟩):opX E (.call ⟨.builtin .append,#[x,y],#[t,u]⟩) d ρ H K:=by
 refine .inl ?_
 show (match [ρ x,ρ y],[t,u]with | [s,.int _ k],[t,u]=>qjZ E.P H t u d s k K | [s,x],[t,u]=>qiY E.P H t u d s x K | _,_=>False)
 cases hy:ρ y<;>rw [hy]at h<;>exact h
end
section
variable (P:Program) (t:TypeId) (k:IntKind) (a b:Int)
theorem qvb:qbF P .add t (.int k a) (.int k b)=some (.int k (k.wrap (a+b))):=by simp [qbF,qbA,qjU]
theorem qvc:qbF P .sub t (.int k a) (.int k b)=some (.int k (k.wrap (a - b))):=by simp [qbF,qbA,qjU]
theorem qvd:qbF P .mul t (.int k a) (.int k b)=some (.int k (k.wrap (a * b))):=by simp [qbF,qbA,qjU]
theorem qve:qbF P .quo t (.int k a) (.int k b)=if b=0 then none else some (.int k (k.wrap (a.tdiv b))):=by simp [qbF,qbA,qjU]
theorem qvf:qbF P .rem t (.int k a) (.int k b)=if b=0 then none else some (.int k (a.tmod b)):=by simp [qbF,qbA,qjU]
theorem qvg:qbF P .eql t (.int k a) (.int k b)=some (.bool (decide (a=b))):=by simp [qbF,qbA,qjU,qcr]
theorem qvh:qbF P .neq t (.int k a) (.int k b)=some (.bool (!decide (a=b))):=by simp [qbF,qbA,qjU,bne,qcr]
theorem qvi:qbF P .lss t (.int k a) (.int k b)=some (.bool (decide (a<b))):=by simp [qbF,qbA,qjU]
theorem qvj:qbF P .leq t (.int k a) (.int k b)=some (.bool (decide (a≤b))):=by simp [qbF,qbA,qjU]
theorem qvk:qbF P .gtr t (.int k a) (.int k b)=some (.bool (decide (b<a))):=by simp [qbF,qbA,qjU]
theorem qvl:qbF P .geq t (.int k a) (.int k b)=some (.bool (decide (b≤a))):=by simp [qbF,qbA,qjU]
theorem qvm (op x y):qbF P op t (.str x) (.str y)=qpe op x y:=rfl
theorem qo2 (x y):qbF P .eql t (.agg x) (.agg y)=if P.eqGuardType P.depth t=true then none else (eqF P 8 t (.agg x) (.agg y)).map .bool:=rfl
theorem qo3 (x y):qbF P .neq t (.agg x) (.agg y)=if P.eqGuardType P.depth t=true then none else (eqF P 8 t (.agg x) (.agg y)).map fun r=> .bool (!r):=rfl
theorem qvn (x y:List UInt8):qpe .add x y=if x.length+y.length≤9223372036854775807 then some (.str (x++y)) else none:=rfl
theorem qvo (x y:List UInt8):qpe .eql x y=some (.bool (decide (x=y))):=by simp [qpe,qcr]
theorem qvp (x y:List UInt8):qpe .neq x y=some (.bool (!decide (x=y))):=by simp [qpe,qcr]
theorem qvq (x y:List UInt8):qpe .lss x y=some (.bool (Op.bytesLess x y)):=rfl
theorem qvr (x y:List UInt8):qpe .leq x y=some (.bool (Op.bytesLess x y|| x == y)):=rfl
theorem qvs (x y:List UInt8):qpe .gtr x y=some (.bool (!(Op.bytesLess x y|| x == y))):=rfl
theorem qvt (x y:List UInt8):qpe .geq x y=some (.bool (!Op.bytesLess x y)):=rfl
theorem qAj (x:Bool):unV .not (.bool x)=some (.bool (!x)):=rfl
theorem qAk:unV .neg (.int k a)=some (.int k (k.wrap (0 - a))):=rfl
theorem qvu (d top:Nat):bnd none d top=if d≤top then some d else none:=rfl
theorem qvv (d top:Nat) (k) (n:Int):bnd (some (.int k n)) d top=if 0≤n∧n≤top then some n.toNat else none:=rfl
end
theorem qmc {n:Int} (h1 : -9223372036854775808≤n) (h2:n≤9223372036854775807):IntKind.i64.wrap n=n:=by rw [IntKind.wrap_i64];omega
theorem qgT {n:Int} (h1:0≤n) (h2:n≤18446744073709551615):IntKind.u64.wrap n=n:=by rw [IntKind.wrap_u64];omega
theorem qo4 {n:Int} (h1:0≤n) (h2:n≤255):IntKind.u8.wrap n=n:=by rw [IntKind.wrap_u8];omega
theorem qD3 {α:Type} (l:List α) (i:Nat) (h:i<l.length):l[i]?=some (l[i]'h):=List.getElem?_eq_getElem h
theorem qAl (H:qac) (o:Nat) (x:Obj) (k:Nat):(H.set o x) k=if k=o then x else H k:=rfl
theorem qj1 (H:qac) (o:Nat) (x y:Obj):(H.set o x).set o y=H.set o y:=by funext k;simp only [qac.set];split<;>rfl
theorem qvw (k:Nat):qac.nil k=⟨0,.dead,0,[],false⟩:=rfl
theorem qo5 (H:qac):H.setAll []=H:=rfl
theorem qmd (H:qac) (o:Nat) (x:Obj) (r:List (Nat×Obj)):H.setAll ((o,x)::r)=(H.set o x).setAll r:=rfl
theorem qrE (d:Nat):qan (some d)=100+d:=rfl
theorem qrF:qan none=99:=rfl
theorem qJk (cs:List AVal):mkV true cs= .agg cs:=rfl
theorem qJl (x:AVal) (cs:List AVal):mkV false (x::cs)=x:=rfl
def frame:Nat→List AVal→Nat→AVal
 | _,[]=>fun _=> .junk
 | k,v::vs=>upd (frame (k+1) vs) k v
theorem qi1:∀(vs:List AVal) (k t:Nat),frame k vs t=if k≤t then vs.getD (t - k) .junk else .junk
 | [],_,_=>by simp [frame]
 | v::vs,k,t=>by
  simp only [frame,upd,qi1 vs (k+1) t]
  by_cases h:t=k
  ·subst h;simp
  ·rw [if_neg h]
   by_cases h2:k≤t
   ·rw [if_pos h2,if_pos (by omega)]
    have:t - k=(t - (k+1))+1:=by omega
    rw [this];rfl
   ·rw [if_neg h2,if_neg (by omega)]
theorem start_eq (ds:List AVal):qkH ds=⟨frame 0 (qaX qac.nil 0 0 ds),qac.nil.setAll (qba qac.nil 0 0 ds)⟩:=by
 unfold qkH
 congr 1
 funext t
 rw [qi1];simp
theorem qj2 (k:Nat):frame k []=fun _=> .junk:=rfl
theorem qh6 (k:Nat) (v:AVal) (vs:List AVal):frame k (v::vs)=upd (frame (k+1) vs) k v:=rfl
theorem qo6 (H:qac):qgb [] H=H:=rfl
theorem qme (k:Nat) (ks:List Nat) (H:qac):qgb (k::ks) H=qgb ks (H.set (k+1) { H (k+1)with exact:=true }):=rfl
attribute [go_sem ↓] qAb qru
attribute [go_sem] qDX qDY qAc qDZ qAd qAe qD0 qAf qu8 qrv qu9 qrw qrx qry qrz qD1 qAg qo2 qo3 qrB qo0 qvb qvc qvd qve qvf qvg qvh qvi qvj qvk qvl qvm qvn qvo qvp qvq qvr qvs qvt qAj qAk qvu qvv qmc qgT qo4 qAl qj1 qvw qo5 qmd qrE qrF qJk qJl qj2 qh6 qaX qie qba qcZ List.map_nil List.map_cons List.nil_append List.cons_append List.append_nil Option.map_some Option.map_none Option.isSome_some true_and and_true Bool.false_eq_true eq_self ne_eq not_false_eq_true not_true_eq_false reduceCtorEq Bool.not_true Bool.not_false decide_true decide_false decide_eq_true_eq List.drop_zero List.drop_succ_cons List.take_zero List.take_succ_cons List.length_cons List.length_nil List.getElem?_cons_zero List.getElem?_cons_succ Int.toNat_natCast Int.natCast_nonneg
attribute [go_sem low] qD3
end Go.Am
