import Derived.Test.YtnpkhdjgedeppaaGreatDoorAm9
namespace Go.Am
set_option linter.unusedSectionVars false
def qtO (v:AVal) (K:Bool→Prop):Prop:=match v with | .bool t=>K t | _=>False
def qqf (v:AVal) (K:IntKind→Int→Prop):Prop:=match v with | .int k n=>K k n | _=>False
def qaH {α:Type} (v:Option α) (K:α→Prop):Prop:=match v with | some a=>K a | none=>False
theorem qnZ {v:AVal} {K:Bool→Prop} (h:qtO v K):∃t,v= .bool t∧K t:=by
 cases v<;>simp only [qtO]at h<;>first | exact h.elim | exact ⟨_,rfl,h⟩
theorem qcj {v:AVal} {K:IntKind→Int→Prop} (h:qqf v K):∃k n,v= .int k n∧K k n:=by
 cases v<;>simp only [qqf]at h<;>first | exact h.elim | exact ⟨_,_,rfl,h⟩
theorem qad {α:Type} {v:Option α} {K:α→Prop} (h:qaH v K):∃a,v=some a∧K a:=by
 cases v<;>simp only [qaH]at h<;>first | exact h.elim | exact ⟨_,rfl,h⟩
abbrev qdY:=AVal→List Nat→List (Nat×Obj)→Prop
def qyn (H:qac) (g:Bool) (n:Nat) (p:AVal) (K:qdY):Prop:=
 match p with
 | .ptr o gn i j=>(H o).gen=gn∧(H o).mode≠ .dead∧qaH ((H o).rows[i]?) fun r=>j+n≤r.length∧K (mkV g ((r.drop j).take n)) [o] []
 | .iptr cs=>n≤cs.length∧K (mkV g (cs.take n)) [] []
 | _=>False
def qxE (H:qac) (n:Nat) (p v:AVal) (K:qdY):Prop:=
 v.boxable=true∧v.cellsV.length=n∧v.cellsV.all AVal.one=true∧
 match p with
 | .ptr o gn i j=>(H o).gen=gn∧(H o).mode= .live∧qaH ((H o).rows[i]?) fun r=>j+v.cellsV.length≤r.length∧K .junk [o] [(o,{ H o with rows:=(H o).rows.set i (qbf r j v.cellsV) })]
 | _=>False
def qqg (off:Nat) (p:AVal) (K:qdY):Prop:=
 match p with
 | .ptr o g i j=>K (.ptr o g i (j+off)) [] []
 | .iptr cs=>K (.iptr (cs.drop off)) [] []
 | _=>False
def qyo (g:Bool) (off n:Nat) (v:AVal) (K:qdY):Prop:=
 match v with
 | .agg cs=>off+n≤cs.length∧(g=false→n=1)∧K (mkV g ((cs.drop off).take n)) [] []
 | _=>False
def qdZ (P:Program) (H:qac) (t:TypeId) (p:AVal) (n:Int) (K:qdY):Prop:=
 match p with
 | .slice st es=>P.elemO t=some st∧qaH (es[n.toNat]?) fun r=>K (.iptr r) [] []
 | .osl o g i m=>(H o).gen=g∧(H o).mode≠ .dead∧P.elemO t=some (H o).st∧n.toNat<m∧K (.ptr o g (i+n.toNat) 0) [o] []
 | .ptr o g i j=>qaH (P.arrO t) fun a=>n.toNat<a.1∧K (.ptr o g i (j+n.toNat * a.2.1)) [] []
 | .iptr cs=>qaH (P.arrO t) fun a=>n.toNat<a.1∧K (.iptr (cs.drop (n.toNat * a.2.1))) [] []
 | _=>False
def qm5 (P:Program) (t:TypeId) (p:AVal) (n:Int) (K:qdY):Prop:=
 match p with
 | .str l=>P.isStr t=true∧qaH (l[n.toNat]?) fun b=>K (.int .u8 b.toNat) [] []
 | .agg cs=>qaH (P.arrO t) fun a=>n.toNat<a.1∧n.toNat * a.2.1+a.2.1≤cs.length∧(a.2.2=false→a.2.1=1)∧K (mkV a.2.2 ((cs.drop (n.toNat * a.2.1)).take a.2.1)) [] []
 | _=>False
def qGE (i:Nat) (v:AVal) (K:qdY):Prop:=
 match v with
 | .tup vs=>qaH (vs[i]?) fun v=>K v [] []
 | _=>False
def qm6 (P:Program) (H:qac) (t:TypeId) (p:AVal) (lo hi:Option AVal) (K:qdY):Prop:=
 match p with
 | .str l=>P.isStr t=true∧qaH (bnd hi l.length l.length) fun h=>qaH (bnd lo 0 h) fun b=>K (.str ((l.drop b).take (h - b))) [] []
 | .slice st es=>P.elemO t=some st∧qaH (bnd hi es.length es.length) fun h=>qaH (bnd lo 0 h) fun b=>K (.slice st ((es.drop b).take (h - b))) [] []
 | .osl o g i m=>(H o).gen=g∧(H o).mode≠ .dead∧P.elemO t=some (H o).st∧qaH (bnd hi m ((H o).rows.length - i)) fun h=>qaH (bnd lo 0 h) fun b=>K (.osl o g (i+b) (h - b)) [o] []
 | .ptr o g i j=>(H o).gen=g∧(H o).mode≠ .dead∧qaH (P.arrO t) fun n=>n.2=(1,false)∧qaH ((H o).rows[i]?) fun r=>j+n.1≤r.length∧((r.drop j).take n.1).all AVal.num=true∧qaH (bnd hi n.1 n.1) fun h=>qaH (bnd lo 0 h) fun b=>
   K (.slice 1 (((((r.drop j).take n.1).map fun a=>[a]).drop b).take (h - b))) [o] [(o,{ H o with mode:= .froz })]
 | _=>False
def qkZ (P:Program) (H:qac) (t:TypeId) (p:AVal) (lo:Option AVal) (hi mx:AVal) (K:qdY):Prop:=
 match p with
 | .slice st es=>P.elemO t=some st∧qaH (bnd (some mx) 0 es.length) fun m=>qaH (bnd (some hi) 0 m) fun h=>qaH (bnd lo 0 h) fun b=>K (.slice st ((es.drop b).take (h - b))) [] []
 | .osl o g i _=>(H o).gen=g∧(H o).mode≠ .dead∧P.elemO t=some (H o).st∧0<(H o).rows.length∧qaH (bnd (some mx) 0 ((H o).rows.length - i)) fun m=>qaH (bnd (some hi) 0 m) fun h=>qaH (bnd lo 0 h) fun b=>
   if i=0∧(H o).mode= .live∧h=m∧b=0 then K (.osl o ((H o).gen+1) 0 m) [o] [(o,⟨(H o).gen+1,.live,(H o).st,(H o).rows.take m,true⟩)]
   else (H o).rows.all qbN=true∧K (.slice (H o).st (((H o).rows.drop (i+b)).take (h - b))) [o] [(o,{ H o with mode:= .froz })]
 | _=>False
def qih (P:Program) (H:qac) (t:TypeId) (p:AVal) (lo:Option AVal) (hi mx:AVal) (K:qdY):Prop:=
 match p with
 | .osl o g i _=>(H o).gen=g∧(H o).mode≠ .dead∧P.elemO t=some (H o).st∧0<(H o).rows.length∧qaH (bnd (some mx) 0 ((H o).rows.length - i)) fun m=>qaH (bnd (some hi) 0 m) fun h=>qaH (bnd lo 0 h) fun _=>K .junk [o] []
 | _=>False
def qtP (P:Program) (H:qac) (s d:TypeId) (dst:Option Tmp) (v:AVal) (K:qdY):Prop:=
 match v with
 | .int _ n=>(P.underlying s).isSome=true∧(match P.underlying d with | some (.int k)=>K (.int k (k.wrap n)) [] []|_=>False)
 | .str l=>if P.isStr d=true then (P.underlying s).isSome=true∧K (.str l) [] []
   else P.isStr s=true∧P.isBytes d=true∧l.length≤9223372036854775807∧K (.osl (qan dst) ((H (qan dst)).gen+1) 0 l.length) [qan dst] [(qan dst,qai H (qan dst) 1 (l.map qab))]
 | .osl o g i n=>if P.isStr d=true then P.isBytes s=true∧P.isStr d=true∧∃l rd,qlh P H s 1 (.osl o g i n) (l.map qab) rd∧K (.str l) rd []
   else s=d∧P.isBytes s=true∧n<0∧(H o).gen=g∧(H o).mode= .live∧K (.osl o g i n) [o] [(o,H o)]
 | v=>P.isBytes s=true∧P.isStr d=true∧∃l rd,qlh P H s 1 v (l.map qab) rd∧K (.str l) rd []
def qyp (P:Program) (H:qac) (t:TypeId) (size:Nat) (x:AVal) (K:List (List AVal)→List Nat→Prop):Prop:=
 match x with
 | .slice st es=>(st=size∨es=[])∧K es []
 | .osl o g i n=>(H o).gen=g∧(H o).mode≠ .dead∧(H o).st=size∧i+n≤(H o).rows.length∧K (((H o).rows.drop i).take n) [o]
 | .str l=>P.isStr t=true∧size=1∧K (l.map qab) []
 | .sc (.slice none 0 0)=>K [] []
 | .sc (.slice (some _) 0 _)=>K [] []
 | _=>False
def qFZ (P:Program) (H:qac) (t:TypeId) (x:AVal) (K:qdY):Prop:=
 match x with
 | .str l=>P.isStr t=true∧K (.int .i64 (l.length:Int)) [] []
 | .slice _ es=>(P.elemO t).isSome=true∧K (.int .i64 (es.length:Int)) [] []
 | .osl o g _ n=>(P.elemO t).isSome=true∧(H o).gen=g∧(H o).mode≠ .dead∧K (.int .i64 (n:Int)) [o] []
 | .sc (.slice none 0 0)=>(P.elemO t).isSome=true∧K (.int .i64 0) [] []
 | .agg _=>qaH (P.arrO t) fun a=>K (.int .i64 (a.1:Int)) [] []
 | _=>False
def qii (P:Program) (H:qac) (t u:TypeId) (dst:Option Tmp) (s x:AVal) (K:qdY):Prop:=
 qaH (P.elemO t) fun size=>qaH (P.elemBytes t) fun bytes=>qaH (P.elemZero t) fun z=>z.length=size∧P.isInt u=false∧(P.underlying u).isSome=true∧
 qyp P H u size x fun es rd=>qcb es=true∧
 match s with
 | .sc (.slice none 0 0)=>es.length * bytes≤140737488355328∧es.length≤9223372036854775807∧K (.osl (qan dst) ((H (qan dst)).gen+1) 0 es.length) (qan dst::rd) [(qan dst,qai H (qan dst) size es)]
 | .osl o g i n=>(H o).gen=g∧(H o).mode= .live∧(H o).st=size∧i+n≤(H o).rows.length∧(n+es.length) * bytes≤140737488355328∧n+es.length≤9223372036854775807∧
   K (.osl o (g+1) 0 (n+es.length)) (o::rd) [(o,⟨g+1,.live,size,((H o).rows.drop i).take n++es,false⟩)]
 | _=>False
def qxF (P:Program) (H:qac) (t u:TypeId) (s x:AVal) (K:qdY):Prop:=
 qaH (P.elemO t) fun size=>P.isInt u=false∧(P.underlying u).isSome=true∧
 qyp P H u size x fun es rd=>qcb es=true∧
 match s with
 | .osl o g i n=>(H o).gen=g∧(H o).mode= .live∧(H o).st=size∧i+n+es.length≤(H o).rows.length∧
   K (.osl o g i (n+es.length)) (o::rd) [(o,{ H o with rows:=(H o).rows.take (i+n)++es++(H o).rows.drop (i+n+es.length) })]
 | _=>False
def qqh (P:Program) (H:qac) (t:TypeId) (x:AVal) (K:qdY):Prop:=
 match x with
 | .osl o g i n=>qaH (P.elemO t) fun size=>qaH (P.elemZero t) fun z=>z.length=size∧qcb [z]=true∧(H o).gen=g∧(H o).mode= .live∧(H o).st=size∧i+n≤(H o).rows.length∧
   K (.tup []) [o] [(o,{ H o with rows:=(H o).rows.take i++List.replicate n z++(H o).rows.drop (i+n) })]
 | _=>False
def qi7 (P:Program) (H:qac) (t u:TypeId) (dst:Option Tmp) (s:AVal) (k:Int) (K:qdY):Prop:=
 match s with
 | .osl o g i n=>P.isInt u=true∧qaH (P.elemO t) fun size=>0<size∧qaH (P.elemBytes t) fun bytes=>qaH (P.elemZero t) fun z=>z.length=size∧0≤k∧
   (H o).gen=g∧(H o).mode≠ .dead∧(H o).st=size∧i+n≤(H o).rows.length∧(n+k.toNat) * bytes≤140737488355328∧n+k.toNat≤9223372036854775807∧
   if (H o).exact=true∧(H o).rows.length<i+n+k.toNat then K (.osl (qan dst) ((H (qan dst)).gen+1) 0 (n+k.toNat)) [qan dst,o] [(qan dst,qai H (qan dst) size (((H o).rows.drop i).take n++List.replicate k.toNat z))]
   else (H o).mode= .live∧qcb (List.replicate k.toNat z)=true∧K (.osl o (g+1) 0 (n+k.toNat)) [o] [(o,⟨g+1,.live,size,((H o).rows.drop i).take n++List.replicate k.toNat z,false⟩)]
 | _=>False
def qGF (P:Program) (H:qac) (t:TypeId) (x:AVal) (K:qdY):Prop:=
 match x with
 | .osl o g i _=>(P.elemO t).isSome=true∧(H o).gen=g∧(H o).mode≠ .dead∧(H o).exact=true∧K (.int .i64 (((H o).rows.length - i:Nat):Int)) [o] []
 | _=>False
def qBT (P:Program) (H:qac) (t u:TypeId) (d x:AVal) (K:qdY):Prop:=
 qaH (P.elemO t) fun size=>qyp P H u size x fun es rd=>
 match d with
 | .osl o g i n=>(H o).gen=g∧(H o).mode= .live∧(H o).st=size∧i+n≤(H o).rows.length∧qcb (es.take (min es.length n))=true∧
   K (.int .i64 ((min es.length n:Nat):Int)) (o::rd) [(o,{ H o with rows:=(H o).rows.take i++es.take (min es.length n)++(H o).rows.drop (i+min es.length n) })]
 | _=>False
def qyq (E:Env) (f:FuncId) (vals:List AVal) (dst:Option Tmp) (H:qac) (K:qdY):Prop:=
 E.P.goFn f=true∧∃ds r ls u b bz,
  Pks H vals ds u b∧u.Nodup∧(∀o∈u,o∉b)∧(∃ex,qdl E ex f ds r ls∧ExV H u vals ex)∧(bz=b∨(bz=[]∧r.flat=true∧qbZ ls=true))∧(qaq vals ds).length=ls.length∧
  (∀(k:Nat) (o:Nat) (l:AVal),(qaq vals ds)[k]?=some o→ls[k]?=some l→∃cs,l= .uptr cs∧cs.length=(H o).st)∧
  ((qcR (qaZ H u (qaq vals ds) bz) (qan dst) r++qaX (qaZ H u (qaq vals ds) bz) (qaq vals ds) ls).map (·.1)).Nodup∧
  K (qhE (qaZ H u (qaq vals ds) bz) (qan dst) r)
   (u++b++(qaT H u (qaq vals ds) bz++(qcR (qaZ H u (qaq vals ds) bz) (qan dst) r++qaX (qaZ H u (qaq vals ds) bz) (qaq vals ds) ls)).map (·.1))
   (qaT H u (qaq vals ds) bz++(qcR (qaZ H u (qaq vals ds) bz) (qan dst) r++qaX (qaZ H u (qaq vals ds) bz) (qaq vals ds) ls))
def xFn (v:AVal) (K:FuncId→List AVal→List AVal→Prop):Prop:=match v with | .fn (.func f) first cap=>K f first cap | _=>False
def opX (E:Env) (op:Op) (dst:Option Tmp) (ρ:Operand→AVal) (H:qac) (K:qdY):Prop:=
 match op with
 | .move x=>K (ρ x) [] []
 | .assign x=>K (ρ x) [] []∨(ρ x= .sc (.slice none 0 0)∧∃k,K (.osl (qan dst) ((H (qan dst)).gen+1) 0 0) [qan dst] [(qan dst,qai H (qan dst) k [])])
 | .pick c a b=>qtO (ρ c) fun t=>K (if t=true then ρ a else ρ b) [] []
 | .alloc t=>qaH (E.P.zeroL t) fun z=>K (.ptr (qan dst) ((H (qan dst)).gen+1) 0 0) [qan dst] [(qan dst,qai H (qan dst) z.length [z])]
 | .box _ x=>(ρ x).boxable=true∧K (.ptr (qan dst) ((H (qan dst)).gen+1) 0 0) [qan dst] [(qan dst,qai H (qan dst) (ρ x).cellsV.length [(ρ x).cellsV])]
 | .build t ps=>E.P.isComp t=true∧qaH (E.P.zeroL t) fun z=>qaH (qfV (E.P.places t) z (ps.toList.map fun p=>(p.1,ρ p.2))) fun cs=>∃l d,K (.agg (qyN l d cs)) [] []
 | .buildSlice t len ps=>qaH (E.P.elemO t) fun size=>0<size∧qaH (E.P.elemZero t) fun z=>z.length=size∧len * size≤16777216∧qaH (qea size (List.replicate len z) (ps.toList.map fun p=>(p.1,ρ p.2))) fun rows=>
   K (.osl (qan dst) ((H (qan dst)).gen+1) 0 len) [qan dst] [(qan dst,qai H (qan dst) size rows)]∨(0<len∧rows.all qbN=true∧K (.slice size rows) [qan dst] [(qan dst,{ qai H (qan dst) size rows with mode:= .froz })])
 | .load t x=>qaH (E.P.szO t) fun n=>qaH (E.P.rowO t) fun g=>(g=false→n=1)∧qyn H g n (ρ x) K
 | .store t x y=>qaH (E.P.szO t) fun n=>qxE H n (ρ x) (ρ y) K
 | .nilCheck x=>(match ρ x with | .ptr _ _ _ _=>True | .iptr _=>True | _=>False)∧K (ρ x) [] []
 | .binOp op t x y _=>qaH (qbG E.P op t (ρ x) (ρ y)) fun v=>K v [] []
 | .unOp op _ x=>qaH (unV op (ρ x)) fun v=>K v [] []
 | .sliceToArrayPointer t x=>qaH (qyJ E.P t (ρ x)) fun v=>K v [] []
 | .convert s d x=>qtP E.P H s d dst (ρ x) K
 | .makeFunc f first cap=>K (.fn f (first.toList.map ρ) (cap.toList.map ρ)) [] []
 | .makeSlice t l c=>qqf (ρ l) fun _ nl=>qqf (ρ c) fun _ nc=>0≤nl∧nl≤nc∧qaH (E.P.elemO t) fun size=>0<size∧qaH (E.P.elemBytes t) fun bytes=>qaH (E.P.elemZero t) fun z=>z.length=size∧
   (bytes:Int) * nc≤281474976710656∧nc≤9223372036854775807∧K (.osl (qan dst) ((H (qan dst)).gen+1) 0 nl.toNat) [qan dst] [(qan dst,qbo H (qan dst) size (List.replicate nl.toNat z) (decide (nl=nc)))]
 | .slice t x lo hi mx=>match mx with
  | none=>qm6 E.P H t (ρ x) (lo.map ρ) (hi.map ρ) K
  | some m=>match hi with
   | some h=>qkZ E.P H t (ρ x) (lo.map ρ) (ρ h) (ρ m) K∨qih E.P H t (ρ x) (lo.map ρ) (ρ h) (ρ m) K
   | none=>False
 | .fieldAddr s x f=>qaH (E.P.fldO s f) fun a=>qqg a.1 (ρ x) K
 | .field s x f=>qaH (E.P.fldO s f) fun a=>qyo a.2.2 a.1 a.2.1 (ρ x) K
 | .indexAddr t x ix=>qqf (ρ ix) fun _ n=>0≤n∧qdZ E.P H t (ρ x) n K
 | .index t x ix=>qqf (ρ ix) fun _ n=>0≤n∧qm5 E.P t (ρ x) n K
 | .extract x i=>qGE i (ρ x) K
 | .call cl=>match cl.callee with
  | .value g=>xFn (ρ g) fun f first cap=>qyq E f (first++cl.args.toList.map ρ++cap) dst H K
  | .builtin .len=>(match cl.args.toList.map ρ,cl.argTypes.toList with | [x],t::_=>qFZ E.P H t x K | _,_=>False)
  | .builtin .max=>(match cl.args.toList.map ρ with | [x,y]=>qqf x fun k a=>qqf y fun _ b=>K (.int k (if b>a then b else a)) [] []|_=>False)
  | .builtin .min=>(match cl.args.toList.map ρ with | [x,y]=>qqf x fun k a=>qqf y fun _ b=>K (.int k (if b<a then b else a)) [] []|_=>False)
  | .builtin .append=>(match cl.args.toList.map ρ,cl.argTypes.toList with | [s,.int _ k],[t,u]=>qi7 E.P H t u dst s k K | [s,x],[t,u]=>qii E.P H t u dst s x K | _,_=>False)∨(match cl.args.toList.map ρ,cl.argTypes.toList with | [s,x],[t,u]=>qxF E.P H t u s x K | _,_=>False)
  | .builtin .clear=>(match cl.args.toList.map ρ,cl.argTypes.toList with | [x],t::_=>qqh E.P H t x K | _,_=>False)
  | .builtin .cap=>(match cl.args.toList.map ρ,cl.argTypes.toList with | [x],t::_=>qGF E.P H t x K | _,_=>False)
  | .builtin .copy=>(match cl.args.toList.map ρ,cl.argTypes.toList with | [d,x],[t,u]=>qBT E.P H t u d x K | _,_=>False)
  | _=>False
 | _=>False
theorem qaY {H:qac} {o g:Nat} (h1:(H o).gen=g) (h2:(H o).mode≠ .dead):AVal.obj H o g=some (H o):=by
 unfold AVal.obj;rw [if_pos ⟨h1,h2⟩]
theorem qgi {P:Program} {H:qac} {t:TypeId} {size:Nat} {x:AVal} {K:List (List AVal)→List Nat→Prop} (h:qyp P H t size x K):∃es rd,qlh P H t size x es rd∧K es rd:=by
 unfold qyp at h
 split at h
 ·exact ⟨_,_,⟨rfl,h.1,rfl⟩,h.2⟩
 ·obtain ⟨h1,h2,h3,h4,h5⟩:=h
  exact ⟨_,_,⟨_,qaY h1 h2,h3,h4,rfl,rfl⟩,h5⟩
 ·obtain ⟨h1,h2,h3⟩:=h
  exact ⟨_,_,⟨h1,h2,rfl,rfl⟩,h3⟩
 ·exact ⟨_,_,⟨rfl,rfl⟩,h⟩
 ·exact ⟨_,_,⟨rfl,rfl⟩,h⟩
 ·exact h.elim
theorem qqi {E:Env} {op:Op} {dst:Option Tmp} {ρ:Operand→AVal} {H:qac} {K:qdY} (h:opX E op dst ρ H K):∃v rd up,qqd E op dst ρ H v rd up∧K v rd up:=by
 cases op<;>simp only [opX]at h<;>try (exact h.elim)
 case move x=>exact ⟨_,_,_,.inl ⟨rfl,rfl,rfl⟩,h⟩
 case assign x=>
  rcases h with h | ⟨h1,k,h⟩
  ·exact ⟨_,_,_,.inl (.inl ⟨rfl,rfl,rfl⟩),h⟩
  ·exact ⟨_,_,_,.inl (.inr ⟨k,h1,rfl,rfl,rfl⟩),h⟩
 case pick x y z=>
  obtain ⟨t,h1,h2⟩:=qnZ h
  exact ⟨_,_,_,.inl ⟨t,h1,rfl,rfl,rfl⟩,h2⟩
 case alloc t=>
  obtain ⟨z,h1,h2⟩:=qad h
  exact ⟨_,_,_,.inl ⟨z,h1,rfl,rfl,rfl⟩,h2⟩
 case box t x=>exact ⟨_,_,_,.inl ⟨h.1,rfl,rfl,rfl⟩,h.2⟩
 case build t ps=>
  obtain ⟨h0,h⟩:=h
  obtain ⟨z,h1,h⟩:=qad h
  obtain ⟨cs,h2,nl,nd,h⟩:=qad h
  exact ⟨_,_,_,.inl ⟨z,cs,h0,h1,h2,⟨nl,nd,rfl⟩,rfl,rfl⟩,h⟩
 case buildSlice t n ps=>
  obtain ⟨size,h1,h2,h⟩:=qad h
  obtain ⟨z,h3,h4,h5,h⟩:=qad h
  obtain ⟨rows,h6,h⟩:=qad h
  rcases h with h | ⟨h7,h8,h⟩
  ·exact ⟨_,_,_,.inl (.inl ⟨size,z,rows,h1,h2,h3,h4,h5,h6,rfl,rfl,rfl⟩),h⟩
  ·exact ⟨_,_,_,.inl (.inr ⟨size,z,rows,h1,h2,h3,h4,h5,h6,h7,h8,rfl,rfl,rfl⟩),h⟩
 case load t x=>
  obtain ⟨n,h1,h⟩:=qad h
  obtain ⟨g,h2,h3,h⟩:=qad h
  unfold qyn at h
  split at h
  ·rename_i o gn i j q
   obtain ⟨q1,q2,h⟩:=h
   obtain ⟨r,q3,q4,h⟩:=qad h
   refine ⟨_,_,_,.inl ⟨n,g,(r.drop j).take n,h1,h2,h3,?_,rfl,by rw [q];rfl,rfl⟩,h⟩
   rw [q]
   simp [qfT,qaY q1 q2,q3,q4]
  ·rename_i cs q
   refine ⟨_,_,_,.inl ⟨n,g,cs.take n,h1,h2,h3,?_,rfl,by rw [q];rfl,rfl⟩,h.2⟩
   rw [q]
   simp [qfT,h.1]
  ·exact h.elim
 case store t x y=>
  obtain ⟨n,h1,h⟩:=qad h
  obtain ⟨h2,h3,h4,h⟩:=h
  split at h
  ·rename_i o gn i j q
   obtain ⟨q1,q2,h⟩:=h
   obtain ⟨r,q3,q4,h⟩:=qad h
   refine ⟨_,_,_,.inl ⟨n,_,h1,h2,h3,h4,?_,rfl,by rw [q];rfl,rfl⟩,h⟩
   rw [q]
   simp [qeI,qaY q1 (by rw [q2];simp),q2,q3,q4]
  ·exact h.elim
 case nilCheck x=>exact ⟨_,_,_,.inl ⟨h.1,rfl,rfl,rfl⟩,h.2⟩
 case binOp op t x y u=>
  obtain ⟨v,h1,h2⟩:=qad h
  exact ⟨_,_,_,.inl ⟨h1,rfl,rfl⟩,h2⟩
 case unOp op t x=>
  obtain ⟨v,h1,h2⟩:=qad h
  exact ⟨_,_,_,.inl ⟨h1,rfl,rfl⟩,h2⟩
 case sliceToArrayPointer t x=>
  obtain ⟨v,h1,h2⟩:=qad h
  exact ⟨_,_,_,.inl ⟨h1,rfl,rfl⟩,h2⟩
 case convert s d x=>
  unfold qtP at h
  split at h
  ·rename_i k n q
   obtain ⟨h1,h⟩:=h
   split at h
   ·rename_i k' hk
    exact ⟨_,_,_,.inl (.inl ⟨rfl,rfl,by rw [q];exact ⟨k',h1,hk,rfl⟩⟩),h⟩
   ·exact h.elim
  ·rename_i l q
   split at h
   ·rename_i hs
    exact ⟨_,_,_,.inl (.inl ⟨rfl,rfl,by rw [q];exact ⟨h.1,hs,rfl⟩⟩),h.2⟩
   ·obtain ⟨h1,h2,h3,h⟩:=h
    refine ⟨_,_,_,.inl (.inr (.inl ?_)),h⟩
    simp only [qis]
    rw [q]
    exact ⟨h1,h2,h3,rfl,trivial,rfl⟩
  ·rename_i o g i n q
   split at h
   ·obtain ⟨h1,h2,l,rd,h3,h⟩:=h
    refine ⟨_,_,_,.inl (.inr (.inl ?_)),h⟩
    simp only [qis]
    rw [q]
    exact ⟨h1,h2,trivial,l,h3,rfl⟩
   ·obtain ⟨h1,h2,h3,h4,h5,h⟩:=h
    exact ⟨_,_,_,.inl (.inr (.inr ⟨o,g,i,n,q,h1,h2,h3,h4,h5,rfl,rfl,rfl⟩)),h⟩
  ·rename_i q1 q2 q3
   obtain ⟨h1,h2,l,rd,h3,h⟩:=h
   refine ⟨_,_,_,.inl (.inr (.inl ?_)),h⟩
   simp only [qis]
   exact ⟨h1,h2,trivial,l,h3,rfl⟩
 case makeFunc f fs cs=>exact ⟨_,_,_,.inl ⟨rfl,rfl,rfl⟩,h⟩
 case makeSlice t l k=>
  obtain ⟨kl,nl,h1,h⟩:=qcj h
  obtain ⟨kc,nc,h2,h3,h4,h⟩:=qcj h
  obtain ⟨size,h5,h6,h⟩:=qad h
  obtain ⟨bytes,h7,h⟩:=qad h
  obtain ⟨z,h8,h9,h10,h11,h⟩:=qad h
  exact ⟨_,_,_,.inl ⟨kl,nl,kc,nc,size,bytes,z,h1,h2,h3,h4,h5,h6,h7,h8,h9,h10,h11,rfl,rfl,rfl⟩,h⟩
 case slice t x lo hi mx=>
  cases mx with
  | some m=>
   cases hi with
   | none=>exact h.elim
   | some hh=>
    simp only at h
    rcases h with h | h
    case inr=>
     unfold qih at h
     split at h
     ·rename_i o g i n q
      obtain ⟨h1,h2,h3,h5,h⟩:=h
      obtain ⟨m',h7,h⟩:=qad h
      obtain ⟨h',h8,h⟩:=qad h
      obtain ⟨bb,h9,h⟩:=qad h
      exact ⟨_,_,_,.inl (.inr (.inr ⟨_,_,rfl,rfl,by rw [q];exact ⟨h1,h2,h3,h5,m',h',bb,h7,h8,h9,.inr (.inr ⟨rfl,rfl,rfl⟩)⟩⟩)),h⟩
     ·exact h.elim
    unfold qkZ at h
    split at h
    ·rename_i st es q
     obtain ⟨h1,h⟩:=h
     obtain ⟨m',h2,h⟩:=qad h
     obtain ⟨h',h3,h⟩:=qad h
     obtain ⟨bb,h4,h⟩:=qad h
     exact ⟨_,_,_,.inl (.inr (.inr ⟨_,_,rfl,rfl,by rw [q];exact ⟨h1,m',h',bb,h2,h3,h4,rfl,rfl,rfl⟩⟩)),h⟩
    ·rename_i o g i n q
     obtain ⟨h1,h2,h3,h5,h⟩:=h
     obtain ⟨m',h7,h⟩:=qad h
     obtain ⟨h',h8,h⟩:=qad h
     obtain ⟨bb,h9,h⟩:=qad h
     split at h
     ·rename_i hc
      obtain ⟨c1,c2,c3,c4⟩:=hc
      exact ⟨_,_,_,.inl (.inr (.inr ⟨_,_,rfl,rfl,by rw [q];exact ⟨h1,h2,h3,h5,m',h',bb,h7,h8,h9,.inl ⟨c1,c2,c3,c4,rfl,rfl,rfl⟩⟩⟩)),h⟩
     ·obtain ⟨h6,h⟩:=h
      exact ⟨_,_,_,.inl (.inr (.inr ⟨_,_,rfl,rfl,by rw [q];exact ⟨h1,h2,h3,h5,m',h',bb,h7,h8,h9,.inr (.inl ⟨h6,rfl,rfl,rfl⟩)⟩⟩)),h⟩
    ·exact h.elim
  | none=>
  have h0:(none:Option Operand)=none:=rfl
  simp only at h
  unfold qm6 at h
  split at h
  ·rename_i l q
   obtain ⟨h1,h⟩:=h
   obtain ⟨hh,h2,h⟩:=qad h
   obtain ⟨bb,h3,h⟩:=qad h
   exact ⟨_,_,_,.inl (.inl ⟨rfl,h0,by rw [q];exact ⟨h1,rfl,hh,bb,h2,h3,rfl⟩⟩),h⟩
  ·rename_i st es q
   obtain ⟨h1,h⟩:=h
   obtain ⟨hh,h2,h⟩:=qad h
   obtain ⟨bb,h3,h⟩:=qad h
   exact ⟨_,_,_,.inl (.inl ⟨rfl,h0,by rw [q];exact ⟨h1,rfl,hh,bb,h2,h3,rfl⟩⟩),h⟩
  ·rename_i o g i m q
   obtain ⟨q1,q2,h1,h⟩:=h
   obtain ⟨hh,h2,h⟩:=qad h
   obtain ⟨bb,h3,h⟩:=qad h
   exact ⟨_,_,_,.inl (.inl ⟨rfl,h0,by rw [q];exact ⟨rfl,_,hh,bb,qaY q1 q2,h1,h2,h3,rfl⟩⟩),h⟩
  ·rename_i o g i j q
   obtain ⟨q1,q2,h⟩:=h
   obtain ⟨⟨n,k,w⟩,h1,hkw,h⟩:=qad h
   obtain ⟨r,h2,h3,h4,h⟩:=qad h
   obtain ⟨hh,h5,h⟩:=qad h
   obtain ⟨bb,h6,h⟩:=qad h
   simp only [Prod.mk.injEq]at hkw
   obtain ⟨rfl,rfl⟩:=hkw
   exact ⟨_,_,_,.inl (.inr (.inl ⟨h0,o,g,i,j,n,r,hh,bb,q,q1,q2,h1,h2,h3,h4,h5,h6,rfl,rfl,rfl⟩)),h⟩
  ·exact h.elim
 case fieldAddr s x f=>
  obtain ⟨⟨off,n,g⟩,h1,h⟩:=qad h
  unfold qqg at h
  split at h
  ·rename_i q;exact ⟨_,_,_,.inl ⟨off,n,g,h1,rfl,rfl,by rw [q]⟩,h⟩
  ·rename_i q;exact ⟨_,_,_,.inl ⟨off,n,g,h1,rfl,rfl,by rw [q]⟩,h⟩
  ·exact h.elim
 case field s x f=>
  obtain ⟨⟨off,n,g⟩,h1,h⟩:=qad h
  unfold qyo at h
  split at h
  ·rename_i cs q;exact ⟨_,_,_,.inl ⟨off,n,g,cs,h1,q,h.1,h.2.1,rfl,rfl,rfl⟩,h.2.2⟩
  ·exact h.elim
 case indexAddr t x i=>
  obtain ⟨k,n,h1,h0,h⟩:=qcj h
  unfold qdZ at h
  split at h
  ·rename_i st es q
   obtain ⟨h2,h⟩:=h
   obtain ⟨r,h3,h⟩:=qad h
   exact ⟨_,_,_,.inl ⟨k,n,h1,h0,rfl,by rw [q];exact ⟨h2,rfl,r,h3,rfl⟩⟩,h⟩
  ·rename_i o g j m q
   obtain ⟨q1,q2,h2,h3,h⟩:=h
   exact ⟨_,_,_,.inl ⟨k,n,h1,h0,rfl,by rw [q];exact ⟨rfl,_,qaY q1 q2,h2,h3,rfl⟩⟩,h⟩
  ·rename_i o g j m q
   obtain ⟨⟨len,kk,w⟩,h2,h3,h⟩:=qad h
   exact ⟨_,_,_,.inl ⟨k,n,h1,h0,rfl,by rw [q];exact ⟨rfl,len,kk,w,h2,h3,rfl⟩⟩,h⟩
  ·rename_i cs q
   obtain ⟨⟨len,kk,w⟩,h2,h3,h⟩:=qad h
   exact ⟨_,_,_,.inl ⟨k,n,h1,h0,rfl,by rw [q];exact ⟨rfl,len,kk,w,h2,h3,rfl⟩⟩,h⟩
  ·exact h.elim
 case index t x i=>
  obtain ⟨k,n,h1,h0,h⟩:=qcj h
  unfold qm5 at h
  split at h
  ·rename_i l q
   obtain ⟨h2,h⟩:=h
   obtain ⟨b,h3,h⟩:=qad h
   exact ⟨_,_,_,.inl ⟨k,n,h1,h0,rfl,rfl,by rw [q];exact ⟨h2,b,h3,rfl⟩⟩,h⟩
  ·rename_i cs q
   obtain ⟨⟨len,kk,w⟩,h2,h3,h4,h5,h⟩:=qad h
   exact ⟨_,_,_,.inl ⟨k,n,h1,h0,rfl,rfl,by rw [q];exact ⟨len,kk,w,h2,h3,h4,h5,rfl⟩⟩,h⟩
  ·exact h.elim
 case extract x i=>
  unfold qGE at h
  split at h
  ·rename_i vs q
   obtain ⟨v,h1,h⟩:=qad h
   exact ⟨_,_,_,.inl ⟨vs,q,h1,rfl,rfl⟩,h⟩
  ·exact h.elim
 case call cl=>
  split at h
  ·rename_i g hg
   unfold xFn at h
   split at h
   case h_2=>exact h.elim
   rename_i f first cap q
   obtain ⟨h1,ds,r,ls,u,b,bz,h2,h3,h4,h5,h6,h7,h8,h9,h⟩:=h
   exact ⟨_,_,_,.inr ⟨cl,rfl,f,_,ds,r,ls,u,b,bz,by rw [hg];dsimp only;rw [q];exact ⟨rfl,rfl⟩,h1,h2,h3,h4,h5,h6,h7,h8,h9,rfl,rfl,rfl⟩,h⟩
  ·rename_i hb
   split at h
   ·rename_i x t ts q1 q2
    have ht:cl.argTypes[0]?=some t:=by rw [←Array.getElem?_toList,q2];rfl
    unfold qFZ at h
    have hact:∀{v rd up},qqb E.P .len cl.argTypes dst [x] H v rd up→qqd E (.call cl) dst ρ H v rd up:=fun hA=> .inl (by simp only [qdC,hb,q1];exact hA)
    split at h
    ·exact ⟨_,_,_,hact ⟨rfl,t,ht,h.1,rfl,rfl⟩,h.2⟩
    ·exact ⟨_,_,_,hact ⟨rfl,t,ht,h.1,rfl,rfl⟩,h.2⟩
    ·obtain ⟨h1,h2,h3,h⟩:=h
     exact ⟨_,_,_,hact ⟨rfl,t,ht,h1,rfl,by rw [qaY h2 h3];rfl,rfl⟩,h⟩
    ·exact ⟨_,_,_,hact ⟨rfl,t,ht,h.1,rfl,rfl⟩,h.2⟩
    ·obtain ⟨⟨len,kk,w⟩,h2,h⟩:=qad h
     exact ⟨_,_,_,hact ⟨rfl,t,ht,len,kk,w,h2,rfl,rfl⟩,h⟩
    ·exact h.elim
   ·exact h.elim
  ·rename_i hb
   split at h
   ·rename_i x y q1
    obtain ⟨k,p,e1,h⟩:=qcj h
    obtain ⟨k',p',e2,h⟩:=qcj h
    subst e1;subst e2
    exact ⟨_,_,_,.inl (by simp only [qdC,hb,q1];exact ⟨rfl,rfl,rfl⟩),h⟩
   ·exact h.elim
  ·rename_i hb
   split at h
   ·rename_i x y q1
    obtain ⟨k,p,e1,h⟩:=qcj h
    obtain ⟨k',p',e2,h⟩:=qcj h
    subst e1;subst e2
    exact ⟨_,_,_,.inl (by simp only [qdC,hb,q1];exact ⟨rfl,rfl,rfl⟩),h⟩
   ·exact h.elim
  ·rename_i hb
   rcases h with h | h
   case inr=>
    split at h
    ·rename_i s x t u q1 q2
     have ht:cl.argTypes=#[t,u]:=by apply Array.ext';simpa using q2
     obtain ⟨size,h1,h5,h6,h⟩:=qad h
     obtain ⟨es,rd,h7,h8,h⟩:=qgi h
     split at h
     ·obtain ⟨g1,g2,g3,g4,h⟩:=h
      exact ⟨_,_,_,.inl (by simp only [qdC,hb,q1];exact .inr (.inl ⟨t,u,size,es,rd,_,_,_,_,_,ht,h1,h5,h6,h7,h8,rfl,qaY g1 (by rw [g2];simp),g2,g3,g4,rfl,rfl,rfl⟩)),h⟩
     ·exact h.elim
    ·exact h.elim
   split at h
   ·rename_i s kk k t u q1 q2
    have ht:cl.argTypes=#[t,u]:=by apply Array.ext';simpa using q2
    unfold qi7 at h
    split at h
    case h_2=>exact h.elim
    rename_i o g i n
    obtain ⟨h0,h⟩:=h
    obtain ⟨size,h1,h2,h⟩:=qad h
    obtain ⟨bytes,h3,h⟩:=qad h
    obtain ⟨z,h4,h5,h6,g1,g2,g4,g5,g7,g8,h⟩:=qad h
    split at h
    ·rename_i hc
     refine ⟨_,_,_,.inl (by simp only [qdC,hb,q1];exact .inl ⟨t,u,size,bytes,z,o,g,i,n,kk,k.toNat,_,ht,h1,h3,h4,h5,h2,h0,rfl,by rw [Int.toNat_of_nonneg (by omega)],qaY g1 g2,g4,g5,g7,g8,.inl ⟨hc.1,hc.2,rfl,rfl,rfl⟩⟩),h⟩
    ·obtain ⟨h8,h9,h⟩:=h
     refine ⟨_,_,_,.inl (by simp only [qdC,hb,q1];exact .inl ⟨t,u,size,bytes,z,o,g,i,n,kk,k.toNat,_,ht,h1,h3,h4,h5,h2,h0,rfl,by rw [Int.toNat_of_nonneg (by omega)],qaY g1 g2,g4,g5,g7,g8,.inr ⟨h8,h9,rfl,rfl,rfl⟩⟩),h⟩
   ·rename_i s x t u hno q1 q2
    have ht:cl.argTypes=#[t,u]:=by apply Array.ext';simpa using q2
    obtain ⟨size,h1,h⟩:=qad h
    obtain ⟨bytes,h2,h⟩:=qad h
    obtain ⟨z,h3,h4,h5,h6,h⟩:=qad h
    obtain ⟨es,rd,h7,h8,h⟩:=qgi h
    have hact:∀{v rd up},qqb E.P .append cl.argTypes dst [s,x] H v rd up→qqd E (.call cl) dst ρ H v rd up:=fun hA=> .inl (by simp only [qdC,hb,q1];exact hA)
    split at h
    ·obtain ⟨g1,g2,h⟩:=h
     exact ⟨_,_,_,hact (.inr (.inr ⟨t,u,size,bytes,z,es,rd,ht,h1,h2,h3,h4,h5,h6,h7,h8,g1,g2,rfl,rfl,rfl⟩)),h⟩
    ·obtain ⟨g1,g2,g3,g4,g5,g6,h⟩:=h
     exact ⟨_,_,_,hact (.inr (.inr ⟨t,u,size,bytes,z,es,rd,ht,h1,h2,h3,h4,h5,h6,h7,h8,_,qaY g1 (by rw [g2];simp),g2,g3,g4,g5,g6,rfl,rfl,rfl⟩)),h⟩
    ·exact h.elim
   ·exact h.elim
  ·rename_i hb
   split at h
   ·rename_i x t ts q1 q2
    have ht:cl.argTypes[0]?=some t:=by rw [←Array.getElem?_toList,q2];rfl
    unfold qqh at h
    split at h
    case h_2=>exact h.elim
    obtain ⟨size,h1,h⟩:=qad h
    obtain ⟨z,h2,h3,h4,g1,g2,g3,g4,h⟩:=qad h
    exact ⟨_,_,_,.inl (by simp only [qdC,hb,q1];exact ⟨t,size,z,_,_,_,_,_,ht,h1,h2,h3,h4,rfl,qaY g1 (by rw [g2];simp),g2,g3,g4,rfl,rfl,rfl⟩),h⟩
   ·exact h.elim
  ·rename_i hb
   split at h
   ·rename_i x t ts q1 q2
    have ht:cl.argTypes[0]?=some t:=by rw [←Array.getElem?_toList,q2];rfl
    unfold qGF at h
    split at h
    case h_2=>exact h.elim
    obtain ⟨h1,h2,h3,h4,h⟩:=h
    exact ⟨_,_,_,.inl (by simp only [qdC,hb,q1];exact ⟨rfl,t,_,_,_,_,ht,rfl,h1,rfl,_,qaY h2 h3,h4,rfl⟩),h⟩
   ·exact h.elim
  ·rename_i hb
   split at h
   ·rename_i s x t u q1 q2
    have ht:cl.argTypes=#[t,u]:=by apply Array.ext';simpa using q2
    obtain ⟨size,h1,h⟩:=qad h
    obtain ⟨es,rd,h7,h⟩:=qgi h
    have hact:∀{v rd up},qqb E.P .copy cl.argTypes dst [s,x] H v rd up→qqd E (.call cl) dst ρ H v rd up:=fun hA=> .inl (by simp only [qdC,hb,q1];exact hA)
    split at h
    ·obtain ⟨g1,g2,g3,g4,g5,h⟩:=h
     exact ⟨_,_,_,hact ⟨t,u,size,es,rd,ht,h1,h7,_,qaY g1 (by rw [g2];simp),g2,g3,g4,g5,rfl,rfl,rfl⟩,h⟩
    ·exact h.elim
   ·exact h.elim
  ·exact h.elim
end Go.Am
