import Derived.Test.YtnpkhdjgedeppaaGreatDoorAm10
namespace Go.Am
theorem qcD {α:Type} [BEq α] [LawfulBEq α] [DecidableEq α] (a b:α):(a == b)=decide (a=b):=by
 by_cases h:a=b<;>simp [h]
class Hold (α:Type) where
 val:α
def qqj (p:Prop) [K:Hold Prop]:Prop:=p∧K.val
theorem qn0 {p A:Prop} (h1:p) (h2:A):@qqj p ⟨A⟩:=⟨h1,h2⟩
section
variable {α:Type}
def qyr (v:Option α) [K:Hold (α→Prop)]:Prop:=qaH v K.val
def qGG (v:AVal) [K:Hold (Bool→Prop)]:Prop:=qtO v K.val
def qxG (v:AVal) [K:Hold (IntKind→Int→Prop)]:Prop:=qqf v K.val
end
section
variable (E:Env) (Q:Exit→St→Prop) (f:Nat→AVal) (H:qac) (s:St)
end
def gd (ops:Array Oper) (j:Nat):Option Tmp:=(ops[j]?).bind (·.dst)
theorem qys (o:Oper) (l:List Oper):gd ⟨o::l⟩ 0=o.dst:=rfl
theorem qqk (o:Oper) (l:List Oper) (n:Nat):gd ⟨o::l⟩ (n+1)=gd ⟨l⟩ n:=by simp [gd]
section
variable (E:Env) (ops:Array Oper) (f:Nat→AVal) (H:qac)
end
section
variable (Γ:Nat→Option (List AVal)) (f:Nat→AVal)
theorem qBU (t):ev Γ f (.tmp t)=f t:=rfl
theorem qBV (k n):ev Γ f (.const (.int k n))= .int k n:=rfl
theorem qyt (b):ev Γ f (.const (.bool b))= .bool b:=rfl
theorem qBW (l):ev Γ f (.const (.string ⟨⟨l⟩⟩))= .str l:=rfl
theorem qyu:ev Γ f (.const (.pointer none))= .sc (.pointer none):=rfl
theorem qyv:ev Γ f (.const (.slice none 0 0))= .sc (.slice none 0 0):=rfl
theorem qBX (l):ev Γ f (.const (.agg ⟨l⟩))= .agg (l.map qqa):=rfl
theorem qyw (g):ev Γ f (.func g)= .fn (.func g) [] []:=rfl
theorem qtQ (k n):qqa (.int k n)= .int k n:=rfl
theorem qql (b):qqa (.bool b)= .bool b:=rfl
theorem qtR (l):qqa (.string ⟨⟨l⟩⟩)= .str l:=rfl
theorem qqm:qqa (.pointer none)= .sc (.pointer none):=rfl
theorem qqn:qqa (.slice none 0 0)= .sc (.slice none 0 0):=rfl
theorem qqo (t v):qaC f (some t) v=upd f t v:=rfl
theorem qqp (v):qaC f none v=f:=rfl
theorem qBY (t v k):upd f t v k=if k=t then v else f k:=rfl
theorem qyx (t v v'):upd (upd f t v) t v'=upd f t v':=by funext k;simp only [upd];split<;>rfl
end
section
variable (P:Program) (H:qac)
def qn1 (P:Program) (H:qac) (t:TypeId) (p:AVal) (n:Int) [K:Hold qdY]:Prop:=qdZ P H t p n K.val
def qBZ (P:Program) (t:TypeId) (p:AVal) (n:Int) [K:Hold qdY]:Prop:=qm5 P t p n K.val
def qxH (P:Program) (H:qac) (t:TypeId) (p:AVal) (lo hi:Option AVal) [K:Hold qdY]:Prop:=qm6 P H t p lo hi K.val
def qKc (P:Program) (H:qac) (t u:TypeId) (dst:Option Tmp) (s x:AVal) [K:Hold qdY]:Prop:=match x with | .int _ k=>qi7 P H t u dst s k K.val | x=>qii P H t u dst s x K.val
variable (K:qdY)
def qqq (P:Program) (t:TypeId):Option IntKind:=match P.underlying t with | some (.int k)=>some k | _=>none
end
section
variable (E:Env) (d:Option Tmp) (ρ:Operand→AVal) (H:qac) (K:qdY)
theorem qtS (c a b):opX E (.pick c a b) d ρ H K=@qGG (ρ c) ⟨fun t=>K (if t=true then ρ a else ρ b) [] []⟩:=rfl
def qn2:AVal→Bool | .ptr _ _ _ _=>true | .iptr _=>true | _=>false
theorem qqr (o g i j):qn2 (.ptr o g i j)=true:=rfl
theorem qn3 (cs):qn2 (.iptr cs)=true:=rfl
theorem qi8 (x):opX E (.nilCheck x) d ρ H K=@qqj (qn2 (ρ x)=true) ⟨K (ρ x) [] []⟩:=by
 simp only [opX,qqj]
 cases ρ x<;>simp [qn2]
theorem qij (t l c):opX E (.makeSlice t l c) d ρ H K=@qxG (ρ l) ⟨fun _ nl=>@qxG (ρ c) ⟨fun _ nc=>@qqj (0≤nl) ⟨@qqj (nl≤nc) ⟨@qyr _ (E.P.elemO t) ⟨fun size=>@qqj (0<size) ⟨@qyr _ (E.P.elemBytes t) ⟨fun bytes=>@qyr _ (E.P.elemZero t) ⟨fun z=>@qqj (z.length=size) ⟨
   @qqj ((bytes:Int) * nc≤281474976710656) ⟨@qqj (nc≤9223372036854775807) ⟨K (.osl (qan d) ((H (qan d)).gen+1) 0 nl.toNat) [qan d] [(qan d,qbo H (qan d) size (List.replicate nl.toNat z) (decide (nl=nc)))]⟩⟩⟩⟩⟩⟩⟩⟩⟩⟩⟩:=rfl
theorem qqs (t x lo hi):opX E (.slice t x lo hi none) d ρ H K=@qxH E.P H t (ρ x) (lo.map ρ) (hi.map ρ) ⟨K⟩:=by simp [opX,qxH]
theorem qik (t x i):opX E (.indexAddr t x i) d ρ H K=@qxG (ρ i) ⟨fun _ n=>@qqj (0≤n) ⟨@qn1 E.P H t (ρ x) n ⟨K⟩⟩⟩:=rfl
theorem qqt (t x i):opX E (.index t x i) d ρ H K=@qxG (ρ i) ⟨fun _ n=>@qqj (0≤n) ⟨@qBZ E.P t (ρ x) n ⟨K⟩⟩⟩:=rfl
theorem qyy (x y t):opX E (.call ⟨.builtin .max,#[x,y],t⟩) d ρ H K=@qxG (ρ x) ⟨fun k a=>@qxG (ρ y) ⟨fun _ b=>K (.int k (if b>a then b else a)) [] []⟩⟩:=rfl
theorem qyz (x y t):opX E (.call ⟨.builtin .min,#[x,y],t⟩) d ρ H K=@qxG (ρ x) ⟨fun k a=>@qxG (ρ y) ⟨fun _ b=>K (.int k (if b<a then b else a)) [] []⟩⟩:=rfl
theorem qn4 {x y t u} (h:@qKc E.P H t u d (ρ x) (ρ y) ⟨K⟩):opX E (.call ⟨.builtin .append,#[x,y],#[t,u]⟩) d ρ H K:=by
 refine .inl ?_
 show (match [ρ x,ρ y],[t,u]with | [s,.int _ k],[t,u]=>qi7 E.P H t u d s k K | [s,x],[t,u]=>qii E.P H t u d s x K | _,_=>False)
 cases hy:ρ y<;>rw [hy]at h<;>exact h
end
section
variable (P:Program) (t:TypeId) (k:IntKind) (a b:Int)
theorem qtT:qbG P .add t (.int k a) (.int k b)=some (.int k (k.wrap (a+b))):=by simp [qbG,qbu,qi3]
theorem qtU:qbG P .sub t (.int k a) (.int k b)=some (.int k (k.wrap (a - b))):=by simp [qbG,qbu,qi3]
theorem qtV:qbG P .mul t (.int k a) (.int k b)=some (.int k (k.wrap (a * b))):=by simp [qbG,qbu,qi3]
theorem qtW:qbG P .quo t (.int k a) (.int k b)=if b=0 then none else some (.int k (k.wrap (a.tdiv b))):=by simp [qbG,qbu,qi3]
theorem qtX:qbG P .rem t (.int k a) (.int k b)=if b=0 then none else some (.int k (a.tmod b)):=by simp [qbG,qbu,qi3]
theorem qtY:qbG P .eql t (.int k a) (.int k b)=some (.bool (decide (a=b))):=by simp [qbG,qbu,qi3,qcD]
theorem qtZ:qbG P .neq t (.int k a) (.int k b)=some (.bool (!decide (a=b))):=by simp [qbG,qbu,qi3,bne,qcD]
theorem qt0:qbG P .lss t (.int k a) (.int k b)=some (.bool (decide (a<b))):=by simp [qbG,qbu,qi3]
theorem qt1:qbG P .leq t (.int k a) (.int k b)=some (.bool (decide (a≤b))):=by simp [qbG,qbu,qi3]
theorem qt2:qbG P .gtr t (.int k a) (.int k b)=some (.bool (decide (b<a))):=by simp [qbG,qbu,qi3]
theorem qt3:qbG P .geq t (.int k a) (.int k b)=some (.bool (decide (b≤a))):=by simp [qbG,qbu,qi3]
theorem qt4 (op x y):qbG P op t (.str x) (.str y)=qoh op x y:=rfl
theorem qn5 (x y):qbG P .eql t (.agg x) (.agg y)=if P.eqGuardType P.depth t=true then none else (eqF P 8 t (.agg x) (.agg y)).map .bool:=rfl
theorem qn6 (x y):qbG P .neq t (.agg x) (.agg y)=if P.eqGuardType P.depth t=true then none else (eqF P 8 t (.agg x) (.agg y)).map fun r=> .bool (!r):=rfl
theorem qt5 (x y:List UInt8):qoh .add x y=if x.length+y.length≤9223372036854775807 then some (.str (x++y)) else none:=rfl
theorem qt6 (x y:List UInt8):qoh .eql x y=some (.bool (decide (x=y))):=by simp [qoh,qcD]
theorem qt7 (x y:List UInt8):qoh .neq x y=some (.bool (!decide (x=y))):=by simp [qoh,qcD]
theorem qt8 (x y:List UInt8):qoh .lss x y=some (.bool (Op.bytesLess x y)):=rfl
theorem qt9 (x y:List UInt8):qoh .leq x y=some (.bool (Op.bytesLess x y|| x == y)):=rfl
theorem qua (x y:List UInt8):qoh .gtr x y=some (.bool (!(Op.bytesLess x y|| x == y))):=rfl
theorem qub (x y:List UInt8):qoh .geq x y=some (.bool (!Op.bytesLess x y)):=rfl
theorem qyA (x:Bool):unV .not (.bool x)=some (.bool (!x)):=rfl
theorem qyB:unV .neg (.int k a)=some (.int k (k.wrap (0 - a))):=rfl
theorem quc (d top:Nat):bnd none d top=if d≤top then some d else none:=rfl
theorem qud (d top:Nat) (k) (n:Int):bnd (some (.int k n)) d top=if 0≤n∧n≤top then some n.toNat else none:=rfl
end
theorem qk0 {n:Int} (h1 : -9223372036854775808≤n) (h2:n≤9223372036854775807):IntKind.i64.wrap n=n:=by rw [IntKind.wrap_i64];omega
theorem qgj {n:Int} (h1:0≤n) (h2:n≤18446744073709551615):IntKind.u64.wrap n=n:=by rw [IntKind.wrap_u64];omega
theorem qn7 {n:Int} (h1:0≤n) (h2:n≤255):IntKind.u8.wrap n=n:=by rw [IntKind.wrap_u8];omega
theorem qB0 {α:Type} (l:List α) (i:Nat) (h:i<l.length):l[i]?=some (l[i]'h):=List.getElem?_eq_getElem h
theorem qyC (H:qac) (o:Nat) (x:Obj) (k:Nat):(H.set o x) k=if k=o then x else H k:=rfl
theorem qi9 (H:qac) (o:Nat) (x y:Obj):(H.set o x).set o y=H.set o y:=by funext k;simp only [qac.set];split<;>rfl
theorem que (k:Nat):qac.nil k=⟨0,.dead,0,[],false⟩:=rfl
theorem qn8 (H:qac):H.setAll []=H:=rfl
theorem qk1 (H:qac) (o:Nat) (x:Obj) (r:List (Nat×Obj)):H.setAll ((o,x)::r)=(H.set o x).setAll r:=rfl
theorem qqu (d:Nat):qan (some d)=100+d:=rfl
theorem qqv:qan none=99:=rfl
theorem qGH (cs:List AVal):mkV true cs= .agg cs:=rfl
theorem qGI (x:AVal) (cs:List AVal):mkV false (x::cs)=x:=rfl
def frame:Nat→List AVal→Nat→AVal
 | _,[]=>fun _=> .junk
 | k,v::vs=>upd (frame (k+1) vs) k v
theorem qil:∀(vs:List AVal) (k t:Nat),frame k vs t=if k≤t then vs.getD (t - k) .junk else .junk
 | [],_,_=>by simp [frame]
 | v::vs,k,t=>by
  simp only [frame,upd,qil vs (k+1) t]
  by_cases h:t=k
  ·subst h;simp
  ·rw [if_neg h]
   by_cases h2:k≤t
   ·rw [if_pos h2,if_pos (by omega)]
    have:t - k=(t - (k+1))+1:=by omega
    rw [this];rfl
   ·rw [if_neg h2,if_neg (by omega)]
theorem start_eq (ds:List AVal):qjP ds=⟨frame 0 (qaU qac.nil 0 0 ds),qac.nil.setAll (qa9 qac.nil 0 0 ds)⟩:=by
 unfold qjP
 congr 1
 funext t
 rw [qil];simp
theorem qja (k:Nat):frame k []=fun _=> .junk:=rfl
theorem qhw (k:Nat) (v:AVal) (vs:List AVal):frame k (v::vs)=upd (frame (k+1) vs) k v:=rfl
theorem qn9 (H:qac):qfJ [] H=H:=rfl
theorem qk2 (k:Nat) (ks:List Nat) (H:qac):qfJ (k::ks) H=qfJ ks (H.set (k+1) { H (k+1)with exact:=true }):=rfl
attribute [go_sem ↓] qys qqk
attribute [go_sem] qBU qBV qyt qBW qyu qyv qBX qyw qtQ qql qtR qqm qqn qqo qqp qBY qyx qn5 qn6 qqr qn3 qtT qtU qtV qtW qtX qtY qtZ qt0 qt1 qt2 qt3 qt4 qt5 qt6 qt7 qt8 qt9 qua qub qyA qyB quc qud qk0 qgj qn7 qyC qi9 que qn8 qk1 qqu qqv qGH qGI qja qhw qaU qhE qa9 qcR List.map_nil List.map_cons List.nil_append List.cons_append List.append_nil Option.map_some Option.map_none Option.isSome_some true_and and_true Bool.false_eq_true eq_self ne_eq not_false_eq_true not_true_eq_false reduceCtorEq Bool.not_true Bool.not_false decide_true decide_false decide_eq_true_eq List.drop_zero List.drop_succ_cons List.take_zero List.take_succ_cons List.length_cons List.length_nil List.getElem?_cons_zero List.getElem?_cons_succ Int.toNat_natCast Int.natCast_nonneg
attribute [go_sem low] qB0
end Go.Am
