import Derived.Test.YtnpkhdjgedeppaaGreatDoorAm12
namespace Go.Am
set_option linter.unusedSectionVars false
abbrev Res:=AVal×List AVal
abbrev Orc:=FuncId→List Nat→List AVal→Option Res
abbrev Out:=AVal×List Nat×List (Nat×Obj)
def gu {α:Type} (p:Prop) [Decidable p] (x:Option α):Option α:=if p then x else none
theorem qag {α:Type} {p:Prop} [Decidable p] {x:Option α} {y:α}:gu p x=some y↔p∧x=some y:=by
 unfold gu;split<;>simp_all
def qfW (H:qac) (g:Bool) (n:Nat) (p:AVal):Option Out:=
 match p with
 | .ptr o gn i j=>gu ((H o).gen=gn) (gu ((H o).mode≠ .dead) (((H o).rows[i]?).bind fun r=>gu (j+n≤r.length) (some (mkV g ((r.drop j).take n),[o],[]))))
 | .iptr cs=>gu (n≤cs.length) (some (mkV g (cs.take n),[],[]))
 | _=>none
def qhQ (H:qac) (n:Nat) (p v:AVal):Option Out:=
 gu (v.boxable=true) (gu (v.cellsV.length=n) (gu (v.cellsV.all AVal.one=true)
 (match p with
 | .ptr o gn i j=>gu ((H o).gen=gn) (gu ((H o).mode= .live) (((H o).rows[i]?).bind fun r=>gu (j+v.cellsV.length≤r.length) (some (.junk,[o],[(o,{ H o with rows:=(H o).rows.set i (qbf r j v.cellsV) })]))))
 | _=>none)))
def qhR (off:Nat) (p:AVal):Option Out:=
 match p with
 | .ptr o g i j=>some (.ptr o g i (j+off),[],[])
 | .iptr cs=>some (.iptr (cs.drop off),[],[])
 | _=>none
def qow (g:Bool) (off n:Nat) (v:AVal):Option Out:=
 match v with
 | .agg cs=>gu (off+n≤cs.length) (gu (g=false→n=1) (some (mkV g ((cs.drop off).take n),[],[])))
 | _=>none
def qa8 (P:Program) (H:qac) (t:TypeId) (p:AVal) (n:Int):Option Out:=
 match p with
 | .slice st es=>gu (P.elemO t=some st) ((es[n.toNat]?).bind fun r=>some (.iptr r,[],[]))
 | .osl o g i m=>gu ((H o).gen=g) (gu ((H o).mode≠ .dead) (gu (P.elemO t=some (H o).st) (gu (n.toNat<m) (some (.ptr o g (i+n.toNat) 0,[o],[])))))
 | .ptr o g i j=>(P.arrO t).bind fun a=>gu (n.toNat<a.1) (some (.ptr o g i (j+n.toNat * a.2.1),[],[]))
 | .iptr cs=>(P.arrO t).bind fun a=>gu (n.toNat<a.1) (some (.iptr (cs.drop (n.toNat * a.2.1)),[],[]))
 | _=>none
def qfL (P:Program) (t:TypeId) (p:AVal) (n:Int):Option Out:=
 match p with
 | .str l=>gu (P.isStr t=true) ((l[n.toNat]?).bind fun b=>some (.int .u8 b.toNat,[],[]))
 | .agg cs=>(P.arrO t).bind fun a=>gu (n.toNat<a.1) (gu (n.toNat * a.2.1+a.2.1≤cs.length) (gu (a.2.2=false→a.2.1=1) (some (mkV a.2.2 ((cs.drop (n.toNat * a.2.1)).take a.2.1),[],[]))))
 | _=>none
def qBP (i:Nat) (v:AVal):Option Out:=
 match v with
 | .tup vs=>(vs[i]?).bind fun v=>some (v,[],[])
 | _=>none
def qei (P:Program) (H:qac) (t:TypeId) (p:AVal) (lo hi:Option AVal):Option Out:=
 match p with
 | .str l=>gu (P.isStr t=true) ((bnd hi l.length l.length).bind fun h=>(bnd lo 0 h).bind fun b=>some (.str ((l.drop b).take (h - b)),[],[]))
 | .slice st es=>gu (P.elemO t=some st) ((bnd hi es.length es.length).bind fun h=>(bnd lo 0 h).bind fun b=>some (.slice st ((es.drop b).take (h - b)),[],[]))
 | .osl o g i m=>gu ((H o).gen=g) (gu ((H o).mode≠ .dead) (gu (P.elemO t=some (H o).st) ((bnd hi m ((H o).rows.length - i)).bind fun h=>(bnd lo 0 h).bind fun b=>some (.osl o g (i+b) (h - b),[o],[]))))
 | .ptr o g i j=>gu ((H o).gen=g) (gu ((H o).mode≠ .dead) ((P.arrO t).bind fun n=>gu (n.2=(1,false)) (((H o).rows[i]?).bind fun r=>gu (j+n.1≤r.length) (gu (((r.drop j).take n.1).all AVal.num=true) ((bnd hi n.1 n.1).bind fun h=>(bnd lo 0 h).bind fun b=>
   some (.slice 1 (((((r.drop j).take n.1).map fun a=>[a]).drop b).take (h - b)),[o],[(o,{ H o with mode:= .froz })]))))))
 | _=>none
def qfp (P:Program) (H:qac) (t:TypeId) (p:AVal) (lo:Option AVal) (hi mx:AVal):Option Out:=
 match p with
 | .slice st es=>gu (P.elemO t=some st) ((bnd (some mx) 0 es.length).bind fun m=>(bnd (some hi) 0 m).bind fun h=>(bnd lo 0 h).bind fun b=>some (.slice st ((es.drop b).take (h - b)),[],[]))
 | .osl o g i _=>gu ((H o).gen=g) (gu ((H o).mode≠ .dead) (gu (P.elemO t=some (H o).st) (gu (0<(H o).rows.length) ((bnd (some mx) 0 ((H o).rows.length - i)).bind fun m=>(bnd (some hi) 0 m).bind fun h=>(bnd lo 0 h).bind fun b=>
   if i=0∧(H o).mode= .live∧h=m∧b=0 then some (.osl o ((H o).gen+1) 0 m,[o],[(o,⟨(H o).gen+1,.live,(H o).st,(H o).rows.take m,true⟩)])
   else gu ((H o).rows.all qbN=true) (some (.slice (H o).st (((H o).rows.drop (i+b)).take (h - b)),[o],[(o,{ H o with mode:= .froz })]))))))
 | _=>none
def qfq (P:Program) (H:qac) (t:TypeId) (p:AVal) (lo:Option AVal) (hi mx:AVal):Option Out:=
 match p with
 | .osl o g i _=>gu ((H o).gen=g) (gu ((H o).mode≠ .dead) (gu (P.elemO t=some (H o).st) (gu (0<(H o).rows.length) ((bnd (some mx) 0 ((H o).rows.length - i)).bind fun m=>(bnd (some hi) 0 m).bind fun h=>(bnd lo 0 h).bind fun _=>some (.junk,[o],[])))))
 | _=>none
def qgB (k:Nat) (P:Program) (H:qac) (t:TypeId) (p:AVal) (lo:Option AVal) (hi mx:AVal):Option Out:=
 match k with
 | 0=>qfp P H t p lo hi mx
 | _+1=>qfq P H t p lo hi mx
def qdz:List (List AVal)→Option (List UInt8)
 | []=>some []
 | r::rs=>match r with
  | [.int .u8 n]=>gu (0≤n∧n<256) ((qdz rs).bind fun l=>some (UInt8.ofNat n.toNat::l))
  | _=>none
theorem qdn:∀(rs:List (List AVal)) (l:List UInt8),qdz rs=some l→rs=l.map qab
 | [],l,h=>by simp only [qdz,Option.some.injEq]at h;subst h;rfl
 | r::rs,l,h=>by
  unfold qdz at h
  split at h
  ·rename_i n
   rw [qag,Option.bind_eq_some_iff]at h
   obtain ⟨h0,l',h1,h2⟩:=h
   simp only [Option.some.injEq]at h2
   subst h2
   rw [qdn rs l' h1]
   simp only [List.map_cons,qab,List.cons.injEq,AVal.int.injEq,true_and,and_true]
   have:(UInt8.ofNat n.toNat).toNat=n.toNat:=by simp [UInt8.toNat_ofNat'];omega
   rw [this];omega
  ·cases h
theorem qly (b:UInt8) (rs:List (List AVal)):qdz (qab b::rs)=(qdz rs).bind fun l=>some (b::l):=by
 have hb:=b.toNat_lt
 have e:qab b=[AVal.int .u8 (b.toNat:Int)]:=rfl
 rw [e]
 simp only [qdz,gu]
 rw [if_pos (by omega)]
 simp
theorem qfr (l:List UInt8):qdz (l.map qab)=some l:=by
 induction l with
 | nil=>rfl
 | cons b l ih=>rw [List.map_cons,qly,ih];rfl
def qhe (P:Program) (H:qac) (t:TypeId) (size:Nat) (x:AVal):Option (List (List AVal)×List Nat):=
 match x with
 | .slice st es=>gu (st=size∨es=[]) (some (es,[]))
 | .osl o g i n=>gu ((H o).gen=g) (gu ((H o).mode≠ .dead) (gu ((H o).st=size) (gu (i+n≤(H o).rows.length) (some (((H o).rows.drop i).take n,[o])))))
 | .str l=>gu (P.isStr t=true) (gu (size=1) (some (l.map qab,[])))
 | .sc (.slice none 0 0)=>some ([],[])
 | .sc (.slice (some _) 0 _)=>some ([],[])
 | _=>none
instance (o:Option Nat) (n:Nat):Decidable (o=some n):=inferInstance
def qho (P:Program) (H:qac) (s d:TypeId) (dst:Option Tmp) (v:AVal):Option Out:=
 match v with
 | .int _ n=>gu ((P.underlying s).isSome=true) ((qqq P d).bind fun k=>some (.int k (k.wrap n),[],[]))
 | .str l=>if P.isStr d=true then gu ((P.underlying s).isSome=true) (some (.str l,[],[]))
   else gu (P.isStr s=true) (gu (P.isBytes d=true) (gu (l.length≤9223372036854775807) (some (.osl (qan dst) ((H (qan dst)).gen+1) 0 l.length,[qan dst],[(qan dst,qai H (qan dst) 1 (l.map qab))]))))
 | .osl o g i n=>if P.isStr d=true then gu (P.isBytes s=true) (gu (P.isStr d=true) ((qhe P H s 1 (.osl o g i n)).bind fun p=>(qdz p.1).bind fun l=>some (.str l,p.2,[])))
   else gu (s=d) (gu (P.isBytes s=true) (gu (n<0) (gu ((H o).gen=g) (gu ((H o).mode= .live) (some (.osl o g i n,[o],[(o,H o)]))))))
 | v=>gu (P.isBytes s=true) (gu (P.isStr d=true) ((qhe P H s 1 v).bind fun p=>(qdz p.1).bind fun l=>some (.str l,p.2,[])))
def qtG (P:Program) (H:qac) (t:TypeId) (x:AVal):Option Out:=
 match x with
 | .str l=>gu (P.isStr t=true) (some (.int .i64 (l.length:Int),[],[]))
 | .slice _ es=>gu ((P.elemO t).isSome=true) (some (.int .i64 (es.length:Int),[],[]))
 | .osl o g _ n=>gu ((P.elemO t).isSome=true) (gu ((H o).gen=g) (gu ((H o).mode≠ .dead) (some (.int .i64 (n:Int),[o],[]))))
 | .sc (.slice none 0 0)=>gu ((P.elemO t).isSome=true) (some (.int .i64 0,[],[]))
 | .agg _=>(P.arrO t).bind fun a=>some (.int .i64 (a.1:Int),[],[])
 | _=>none
def qcG (P:Program) (H:qac) (t u:TypeId) (dst:Option Tmp) (s x:AVal):Option Out:=
 (P.elemO t).bind fun size=>(P.elemBytes t).bind fun bytes=>(P.elemZero t).bind fun z=>gu (z.length=size) (gu (P.isInt u=false) (gu ((P.underlying u).isSome=true)
 ((qhe P H u size x).bind fun p=>gu (qcb p.1=true)
 (match s with
 | .sc (.slice none 0 0)=>gu (p.1.length * bytes≤140737488355328) (gu (p.1.length≤9223372036854775807) (some (.osl (qan dst) ((H (qan dst)).gen+1) 0 p.1.length,qan dst::p.2,[(qan dst,qai H (qan dst) size p.1)])))
 | .osl o g i n=>gu ((H o).gen=g) (gu ((H o).mode= .live) (gu ((H o).st=size) (gu (i+n≤(H o).rows.length) (gu ((n+p.1.length) * bytes≤140737488355328) (gu (n+p.1.length≤9223372036854775807)
   (some (.osl o (g+1) 0 (n+p.1.length),o::p.2,[(o,⟨g+1,.live,size,((H o).rows.drop i).take n++p.1,false⟩)])))))))
 | _=>none))))
def qhS (P:Program) (H:qac) (t u:TypeId) (dst:Option Tmp) (s:AVal) (k:Int):Option Out:=
 match s with
 | .osl o g i n=>gu (P.isInt u=true) ((P.elemO t).bind fun size=>gu (0<size) ((P.elemBytes t).bind fun bytes=>(P.elemZero t).bind fun z=>gu (z.length=size) (gu (0≤k)
   (gu ((H o).gen=g) (gu ((H o).mode≠ .dead) (gu ((H o).st=size) (gu (i+n≤(H o).rows.length) (gu ((n+k.toNat) * bytes≤140737488355328) (gu (n+k.toNat≤9223372036854775807)
   (if (H o).exact=true∧(H o).rows.length<i+n+k.toNat then some (.osl (qan dst) ((H (qan dst)).gen+1) 0 (n+k.toNat),[qan dst,o],[(qan dst,qai H (qan dst) size (((H o).rows.drop i).take n++List.replicate k.toNat z))])
    else gu ((H o).mode= .live) (gu (qcb (List.replicate k.toNat z)=true) (some (.osl o (g+1) 0 (n+k.toNat),[o],[(o,⟨g+1,.live,size,((H o).rows.drop i).take n++List.replicate k.toNat z,false⟩)])))))))))))))
 | _=>none
def qyW (P:Program) (H:qac) (t u:TypeId) (dst:Option Tmp) (s x:AVal):Option Out:=
 match x with
 | .int _ k=>qhS P H t u dst s k
 | x=>qcG P H t u dst s x
def qhT (P:Program) (H:qac) (t u:TypeId) (s x:AVal):Option Out:=
 (P.elemO t).bind fun size=>gu (P.isInt u=false) (gu ((P.underlying u).isSome=true) ((qhe P H u size x).bind fun p=>gu (qcb p.1=true)
 (match s with
 | .osl o g i n=>gu ((H o).gen=g) (gu ((H o).mode= .live) (gu ((H o).st=size) (gu (i+n+p.1.length≤(H o).rows.length)
   (some (.osl o g i (n+p.1.length),o::p.2,[(o,{ H o with rows:=(H o).rows.take (i+n)++p.1++(H o).rows.drop (i+n+p.1.length) })])))))
 | _=>none)))
def qB8 (k:Nat) (P:Program) (H:qac) (t u:TypeId) (dst:Option Tmp) (s x:AVal):Option Out:=
 match k with
 | 0=>qyW P H t u dst s x
 | _+1=>qhT P H t u s x
def qhU (P:Program) (H:qac) (t:TypeId) (x:AVal):Option Out:=
 match x with
 | .osl o g i n=>(P.elemO t).bind fun size=>(P.elemZero t).bind fun z=>gu (z.length=size) (gu (qcb [z]=true) (gu ((H o).gen=g) (gu ((H o).mode= .live) (gu ((H o).st=size) (gu (i+n≤(H o).rows.length)
   (some (.tup [],[o],[(o,{ H o with rows:=(H o).rows.take i++List.replicate n z++(H o).rows.drop (i+n) })])))))))
 | _=>none
def qBQ (P:Program) (H:qac) (t:TypeId) (x:AVal):Option Out:=
 match x with
 | .osl o g i _=>gu ((P.elemO t).isSome=true) (gu ((H o).gen=g) (gu ((H o).mode≠ .dead) (gu ((H o).exact=true) (some (.int .i64 (((H o).rows.length - i:Nat):Int),[o],[])))))
 | _=>none
def qox (P:Program) (H:qac) (t u:TypeId) (d x:AVal):Option Out:=
 (P.elemO t).bind fun size=>(qhe P H u size x).bind fun p=>
 (match d with
 | .osl o g i n=>gu ((H o).gen=g) (gu ((H o).mode= .live) (gu ((H o).st=size) (gu (i+n≤(H o).rows.length) (gu (qcb (p.1.take (min p.1.length n))=true)
   (some (.int .i64 ((min p.1.length n:Nat):Int),o::p.2,[(o,{ H o with rows:=(H o).rows.take i++p.1.take (min p.1.length n)++(H o).rows.drop (i+min p.1.length n) })]))))))
 | _=>none)
def pkL (f:AVal→Option (AVal×List Nat)):List AVal→Option (List AVal×List Nat)
 | []=>some ([],[])
 | v::vs=>(f v).bind fun p=>(pkL f vs).bind fun q=>some (p.1::q.1,p.2++q.2)
def qlz (f:AVal→Option (AVal×List Nat)):List (List AVal)→Option (List (List AVal)×List Nat)
 | []=>some ([],[])
 | v::vs=>(pkL f v).bind fun p=>(qlz f vs).bind fun q=>some (p.1::q.1,p.2++q.2)
def qej (f:AVal→Option (AVal×List Nat)) (rs:List (List AVal)):Option (List (List AVal)×List Nat):=
 if rs.all qbN=true then some (rs,[]) else qlz f rs
def pkE (H:qac):Nat→AVal→Option (AVal×List Nat)
 | 0,v=>gu (v.clo=true) (some (v,[]))
 | d+1,v=>match v with
  | .agg cs=>(pkL (pkE H d) cs).bind fun p=>some (.agg p.1,p.2)
  | .tup cs=>(pkL (pkE H d) cs).bind fun p=>some (.tup p.1,p.2)
  | .fn f fs cs=>(pkL (pkE H d) fs).bind fun p=>(pkL (pkE H d) cs).bind fun q=>some (.fn f p.1 q.1,p.2++q.2)
  | .osl o g i n=>gu ((H o).gen=g) (gu ((H o).mode≠ .dead) (gu (i+n≤(H o).rows.length) ((qej (pkE H d) (((H o).rows.drop i).take n)).bind fun p=>some (.slice (H o).st p.1,o::p.2))))
  | .ptr o g i j=>gu ((H o).gen=g) (gu ((H o).mode≠ .dead) (((H o).rows[i]?).bind fun r=>(pkL (pkE H d) (qqc (r.drop j))).bind fun p=>some (.iptr p.1,o::p.2)))
  | v=>gu (v.plain=true) (some (v,[]))
abbrev Pko:=AVal×List Nat×List Nat
def qoy (f:AVal→Option Pko):List AVal→Option (List AVal×List Nat×List Nat)
 | []=>some ([],[],[])
 | v::vs=>(f v).bind fun p=>(qoy f vs).bind fun q=>some (p.1::q.1,p.2.1++q.2.1,p.2.2++q.2.2)
def qq0 (f:List AVal→Option (List AVal×List Nat×List Nat)) (o:Nat):List (List AVal)→Option Pko
 | [r]=>(f r).bind fun p=>some (.uptr p.1,o::p.2.1,p.2.2)
 | _=>none
def pkO (H:qac):Nat→AVal→Option Pko
 | 0,v=>gu (v.clo=true) (some (v,[],[]))
 | d+1,v=>match v with
  | .agg cs=>(qoy (pkO H d) cs).bind fun p=>some (.agg p.1,p.2)
  | .tup cs=>(qoy (pkO H d) cs).bind fun p=>some (.tup p.1,p.2)
  | .osl o g i n=>if (H o).mode= .live∧i=0∧n≤(H o).rows.length then gu ((H o).gen=g) ((qej (pkE H d) ((H o).rows.take n)).bind fun p=>some (.usl (H o).st p.1,[o],p.2))
    else (pkE H (d+1) (.osl o g i n)).bind fun p=>some (p.1,[],p.2)
  | .ptr o g i j=>gu ((H o).gen=g) (gu ((H o).mode= .live) (gu (i=0∧j=0) (qq0 (qoy (pkO H d)) o (H o).rows)))
  | v=>(pkE H (d+1) v).bind fun p=>some (p.1,[],p.2)
theorem qcH {H:qac} {f:AVal→Option (AVal×List Nat)} (hf:∀v p,f v=some p→PkC H v p.1 p.2):∀(vs:List AVal) (p),pkL f vs=some p→PkCs H vs p.1 p.2
 | [],p,h=>by simp only [pkL,Option.some.injEq]at h;subst h;exact .nil
 | v::vs,p,h=>by
  simp only [pkL,Option.bind_eq_some_iff,Option.some.injEq]at h
  obtain ⟨a,h1,b,h2,rfl⟩:=h
  exact .cons (hf _ _ h1) (qcH hf _ _ h2)
theorem qhV {H:qac} {f:AVal→Option (AVal×List Nat)} (hf:∀v p,f v=some p→PkC H v p.1 p.2):∀(vs:List (List AVal)) (p),qlz f vs=some p→PkRs H vs p.1 p.2
 | [],p,h=>by simp only [qlz,Option.some.injEq]at h;subst h;exact .nil
 | v::vs,p,h=>by
  simp only [qlz,Option.bind_eq_some_iff,Option.some.injEq]at h
  obtain ⟨a,h1,b,h2,rfl⟩:=h
  exact .cons (qcH hf _ _ h1) (qhV hf _ _ h2)
theorem qfM {H:qac} {f:AVal→Option (AVal×List Nat)} (hf:∀v p,f v=some p→PkC H v p.1 p.2) {rs p} (h:qej f rs=some p):PkRs H rs p.1 p.2:=by
 unfold qej at h
 split at h
 ·rename_i hc;simp only [Option.some.injEq]at h;subst h;exact qm7 H rs hc
 ·exact qhV hf _ _ h
theorem qeY {H:qac}:∀(d:Nat) (v:AVal) (p),pkE H d v=some p→PkC H v p.1 p.2
 | 0,v,p,h=>by
  simp only [pkE,qag,Option.some.injEq]at h
  obtain ⟨h1,rfl⟩:=h
  exact qqw H v h1
 | d+1,v,p,h=>by
  have ih:=qeY (H:=H) d
  cases v<;>simp only [pkE,qag,Option.bind_eq_some_iff,Option.some.injEq]at h
  case agg cs=>obtain ⟨q,h1,rfl⟩:=h;exact .agg (qcH ih _ _ h1)
  case tup cs=>obtain ⟨q,h1,rfl⟩:=h;exact .tup (qcH ih _ _ h1)
  case fn f fs cs=>obtain ⟨q,h1,q',h2,rfl⟩:=h;exact .fn (qcH ih _ _ h1) (qcH ih _ _ h2)
  case osl o g i n=>obtain ⟨h1,h2,h3,q,h4,rfl⟩:=h;exact .borS (qaY h1 h2) h3 (qfM ih h4)
  case ptr o g i j=>obtain ⟨h1,h2,r,h3,q,h4,rfl⟩:=h;exact .borP (qaY h1 h2) h3 (qcH ih _ _ h4)
  all_goals obtain ⟨h1,rfl⟩:=h;exact .plain h1
theorem qd4 {H:qac} {f:AVal→Option Pko} (hf:∀v p,f v=some p→Pk H v p.1 p.2.1 p.2.2):∀(vs:List AVal) (p),qoy f vs=some p→Pks H vs p.1 p.2.1 p.2.2
 | [],p,h=>by simp only [qoy,Option.some.injEq]at h;subst h;exact .nil
 | v::vs,p,h=>by
  simp only [qoy,Option.bind_eq_some_iff,Option.some.injEq]at h
  obtain ⟨a,h1,b,h2,rfl⟩:=h
  exact .cons (hf _ _ h1) (qd4 hf _ _ h2)
mutual
theorem PkC.toPk {H:qac}:∀{v d:AVal} {b:List Nat},PkC H v d b→Pk H v d [] b
 | _,_,_,.plain h=> .plain h
 | _,_,_,.nilS=> .nilS
 | _,_,_,.agg h=> .agg (PkCs.toPk h)
 | _,_,_,.tup h=> .tup (PkCs.toPk h)
 | _,_,_,.fn h1 h2=> .fn h1 h2
 | _,_,_,.borS h1 h2 h3=> .borS h1 h2 h3
 | _,_,_,.borP h1 h2 h3=> .borP h1 h2 h3
theorem PkCs.toPk {H:qac}:∀{v d:List AVal} {b:List Nat},PkCs H v d b→Pks H v d [] b
 | _,_,_,.nil=> .nil
 | _,_,_,.cons h1 h2=>by have:=Pks.cons (PkC.toPk h1) (PkCs.toPk h2);simpa using this
end
theorem qgC {H:qac}:∀(d:Nat) (v:AVal) (p),pkO H d v=some p→Pk H v p.1 p.2.1 p.2.2
 | 0,v,p,h=>by
  simp only [pkO,qag,Option.some.injEq]at h
  obtain ⟨h1,rfl⟩:=h
  exact qxI H v h1
 | d+1,v,p,h=>by
  have ih:=qgC (H:=H) d
  have ihE:=qeY (H:=H) d
  have rest:∀q:AVal×List Nat,pkE H (d+1) v=some q→p=(q.1,[],q.2)→Pk H v p.1 p.2.1 p.2.2:=fun q h1 e=>by
   subst e;exact (qeY (d+1) v q h1).toPk
  cases v<;>simp only [pkO,qag,Option.bind_eq_some_iff,Option.some.injEq]at h
  case agg cs=>obtain ⟨q,h1,rfl⟩:=h;exact .agg (qd4 ih _ _ h1)
  case tup cs=>obtain ⟨q,h1,rfl⟩:=h;exact .tup (qd4 ih _ _ h1)
  case osl o g i n=>
   split at h
   ·rename_i hc
    obtain ⟨rfl',hi,hn⟩:=hc
    subst hi
    rw [qag,Option.bind_eq_some_iff]at h
    obtain ⟨h1,q,h2,h3⟩:=h
    simp only [Option.some.injEq]at h3
    subst h3
    exact .ownS (qaY h1 (by rw [rfl'];simp)) rfl' hn (qfM ihE h2)
   ·rw [Option.bind_eq_some_iff]at h
    obtain ⟨q,h1,h2⟩:=h
    simp only [Option.some.injEq]at h2
    exact rest q h1 h2.symm
  case ptr o g i j=>
   obtain ⟨h1,h2,⟨rfl,rfl⟩,h⟩:=h
   unfold qq0 at h
   split at h
   ·rename_i r hr
    rw [Option.bind_eq_some_iff]at h
    obtain ⟨q,h4,h5⟩:=h
    simp only [Option.some.injEq]at h5
    subst h5
    exact .qht (qaY h1 (by rw [h2];simp)) h2 hr (qd4 ih _ _ h4)
   ·cases h
  all_goals
   obtain ⟨q,h1,h2⟩:=h
   exact rest q (by simpa [pkE,qag]using h1) h2.symm
def qhW (own:Bool) (k:Nat) (v:AVal):AVal:=
 match v,k with
 | .sc (.slice none 0 0),k+1=>if own=true then .usl k [] else .slice k []
 | v,_=>v
def qoz (own:Bool):List Nat→List AVal→List AVal
 | k::ks,v::vs=>qhW own k v::qoz own ks vs
 | _,vs=>vs
def qga (own:Bool) (ks:List Nat) (v:AVal):AVal:=
 match v with
 | .agg cs=> .agg (qoz own ks cs)
 | v=>qhW own (ks.headD 0) v
theorem qhX {H:qac} {own:Bool} {k:Nat} {v d:AVal} {u b:List Nat} (h:Pk H v d u b):Pk H v (qhW own k d) u b:=by
 unfold qhW
 split
 ·cases h with
  | plain hp=>split<;>first | exact .nilU | exact .nilS
 ·exact h
theorem qhY {H:qac} {own:Bool}:∀{ks:List Nat} {vs ds:List AVal} {u b:List Nat},Pks H vs ds u b→Pks H vs (qoz own ks ds) u b
 | [],_,_,_,_,h=>by unfold qoz;exact h
 | k::ks,_,_,_,_,.nil=> .nil
 | k::ks,_,_,_,_,.cons h hs=> .cons (qhX h) (qhY hs)
theorem qhZ {H:qac} {own:Bool} {ks:List Nat} {v d:AVal} {u b:List Nat} (h:Pk H v d u b):Pk H v (qga own ks d) u b:=by
 unfold qga
 split
 ·cases h with
  | plain hp=>simp [AVal.plain]at hp
  | agg h=>exact .agg (qhY h)
 ·exact qhX h
def qjS (H:qac) (m:Nat) (ks:List Nat) (v:AVal):Option Pko:=
 if m=0 then (pkE H 4 v).bind fun p=>some (qga false ks p.1,[],p.2) else (pkO H 4 v).bind fun p=>some (qga true ks p.1,p.2)
theorem qgD {H:qac} {m:Nat} {ks:List Nat} {v:AVal} {p:Pko} (h:qjS H m ks v=some p):Pk H v p.1 p.2.1 p.2.2:=by
 unfold qjS at h
 split at h
 ·rw [Option.bind_eq_some_iff]at h
  obtain ⟨q,h1,h2⟩:=h
  simp only [Option.some.injEq]at h2
  subst h2
  exact qhZ (qeY _ _ _ h1).toPk
 ·rw [Option.bind_eq_some_iff]at h
  obtain ⟨q,h1,h2⟩:=h
  simp only [Option.some.injEq]at h2
  subst h2
  exact qhZ (qgC _ _ _ h1)
def qfX (H:qac):List Nat→List (List Nat)→List AVal→Option (List AVal×List Nat×List Nat)
 | _,_,[]=>some ([],[],[])
 | ms,kss,v::vs=>(qjS H (ms.headD 0) (kss.headD []) v).bind fun p=>(qfX H ms.tail kss.tail vs).bind fun q=>some (p.1::q.1,p.2.1++q.2.1,p.2.2++q.2.2)
theorem qet {H:qac}:∀{vs:List AVal} {ms:List Nat} {kss:List (List Nat)} {p},qfX H ms kss vs=some p→Pks H vs p.1 p.2.1 p.2.2
 | [],_,_,p,h=>by simp only [qfX,Option.some.injEq]at h;subst h;exact .nil
 | v::vs,ms,kss,p,h=>by
  simp only [qfX,Option.bind_eq_some_iff,Option.some.injEq]at h
  obtain ⟨a,h1,b,h2,rfl⟩:=h
  exact .cons (qgD h1) (qet h2)
def _root_.Go.Program.kindsF (P:Program):Nat→TypeId→List Nat
 | 0,_=>[0]
 | d+1,t=>match P.underlying t with
  | some (.slice e)=>(match P.szO e with | some n=>[n+1]|none=>[0])
  | some (.struct fs)=>fs.toList.flatMap fun f=>P.kindsF d f.type
  | some (.array n e)=>(List.replicate n (P.kindsF d e)).flatten
  | _=>[0]
def _root_.Go.Program.parK (P:Program) (f:FuncId):List (List Nat):=match P.funcs[f]? with | some fn=>fn.params.toList.map (P.kindsF 5)|none=>[]
def _root_.Go.Program.resK (P:Program) (f:FuncId):List (List Nat):=match P.funcs[f]? with | some fn=>fn.resultTypes.toList.map (P.kindsF 5)|none=>[]
structure Mds where
 par:FuncId→List Nat
 res:FuncId→List Nat
 
 loc:FuncId→Nat
 
 nl:FuncId→List (Nat×Nat)
 
 cur:List (Nat×Nat)
 
 inls:List (FuncId×Nat)
 
 base:Nat
 
 gh:Option (Nat×Nat×Int)
def Mds.at (M:Mds) (f:FuncId):Mds:={ M with cur:=M.nl f,base:=0 }
def qi5:List (FuncId×Nat)→FuncId→Nat
 | [],_=>0
 | p::l,f=>if p.1=f then p.2 else qi5 l f
def Mds.inat (M:Mds) (f:FuncId):Mds:={ M with cur:=M.nl f,base:=qi5 M.inls f }
def shD (b:Nat) (dst:Option Tmp):Option Tmp:=
 match b with
 | 0=>dst
 | b+1=>some (match dst with | some d=>b+1+d | none=>b+1)
def nlk:List (Nat×Nat)→Nat→Nat
 | [],_=>0
 | p::l,t=>if p.1=t then p.2+1 else nlk l t
def qyX (M:Mds) (dst:Option Tmp) (H:qac) (v:AVal):Option Out:=
 match dst with
 | none=>some (v,[],[])
 | some d=>match nlk M.cur d with
  | 0=>some (v,[],[])
  | k+1=>match v with
   | .sc (.slice none 0 0)=>some (.osl (qan (shD M.base (some d))) ((H (qan (shD M.base (some d)))).gen+1) 0 0,[qan (shD M.base (some d))],[(qan (shD M.base (some d)),qai H (qan (shD M.base (some d))) k [])])
   | v=>some (v,[],[])
def qq1:AVal→Bool | .sc (.slice none 0 0)=>true | _=>false
def qb3 (H:qac):List Nat→Nat→List AVal→List AVal→List Nat
 | ms,k,.osl o _ _ n::vs,.usl _ _::ds=>if (H o).exact=true∧n=(H o).rows.length then k::qb3 H ms.tail (k+1) vs ds else qb3 H ms.tail (k+1) vs ds
 | ms,k,.sc x::vs,.usl _ _::ds=>if ms.headD 0=2∧qq1 (.sc x)=true then k::qb3 H ms.tail (k+1) vs ds else qb3 H ms.tail (k+1) vs ds
 | ms,k,_::vs,_::ds=>qb3 H ms.tail (k+1) vs ds
 | _,_,_,_=>[]
def qcY (H:qac):List Nat→List AVal→Bool
 | o::os,.uptr cs::ls=>decide (cs.length=(H o).st)&&qcY H os ls
 | [],[]=>true
 | _,_=>false
def qdM (u b:List Nat):Bool:=u.all fun o=>!b.contains o
def qcI:List Nat→Bool
 | []=>true
 | x::xs=>!xs.contains x&&qcI xs
def qq2 (H:qac) (u b lent:List Nat) (dst:Option Tmp) (r:AVal) (ls:List AVal) (bz:List Nat):Option Out:=
 gu (qcI ((qcR (qaZ H u lent bz) (qan dst) r++qaX (qaZ H u lent bz) lent ls).map (·.1))=true)
 (some (qhE (qaZ H u lent bz) (qan dst) r,
   u++b++(qaT H u lent bz++(qcR (qaZ H u lent bz) (qan dst) r++qaX (qaZ H u lent bz) lent ls)).map (·.1),
   qaT H u lent bz++(qcR (qaZ H u lent bz) (qan dst) r++qaX (qaZ H u lent bz) lent ls)))
def qeu (E:Env) (M:Mds) (C:Orc) (f:FuncId) (vals:List AVal) (dst:Option Tmp) (H:qac):Option Out:=
 gu (E.P.goFn f=true) ((qfX H (M.par f) (E.P.parK f) vals).bind fun p=>gu (qcI p.2.1=true) (gu (qdM p.2.1 p.2.2=true)
 ((C f (qb3 H (M.par f) 0 vals p.1) p.1).bind fun q=>gu (qcY H (qaq vals p.1) q.2=true)
 (qq2 H p.2.1 p.2.2 (qaq vals p.1) dst q.1 q.2 (if q.1.flat&&qbZ q.2 then [] else p.2.2)))))
def qq3:AVal→AVal | .usl st es=> .slice st es | v=>v
def qc5 (C:Orc):Orc:=fun f ex ds=>(C f ex ds).map fun q=>(qq3 q.1,q.2)
def ghO (gh:Option (Nat×Nat×Int)) (dst:Option Tmp) (ρ:Operand→AVal) (C:Orc):Orc:=
 match gh with
 | none=>C
 | some (d,t,n)=>if dst=some d then (match ρ (.tmp t)with | .int _ m=>if m=n then C else qc5 C | _=>C) else C
def qxN (l:List (Nat×Nat)) (dst:Option Tmp):Nat:=match dst with | none=>0 | some d=>nlk l d
def bsE (k:Nat) (H:qac) (o size len:Nat) (rows:List (List AVal)):Option Out:=
 match k with
 | 0=>some (.osl o ((H o).gen+1) 0 len,[o],[(o,qai H o size rows)])
 | _+1=>gu (0<len) (gu (rows.all qbN=true) (some (.slice size rows,[o],[(o,{ qai H o size rows with mode:= .froz })])))
def qeZ (E:Env) (k:Nat) (b:Builtin) (args:List Operand) (ts:Array TypeId) (dst:Option Tmp) (ρ:Operand→AVal) (H:qac):Option Out:=
 match b,args,ts with
 | .len,[x],⟨t::_⟩=>qtG E.P H t (ρ x)
 | .max,[x,y],_=>match ρ x,ρ y with | .int k a,.int _ b=>some (.int k (if b>a then b else a),[],[])|_,_=>none
 | .min,[x,y],_=>match ρ x,ρ y with | .int k a,.int _ b=>some (.int k (if b<a then b else a),[],[])|_,_=>none
 | .append,[x,y],⟨[t,u]⟩=>qB8 k E.P H t u dst (ρ x) (ρ y)
 | .clear,[x],⟨t::_⟩=>qhU E.P H t (ρ x)
 | .cap,[x],⟨t::_⟩=>qBQ E.P H t (ρ x)
 | .copy,[x,y],⟨[t,u]⟩=>qox E.P H t u (ρ x) (ρ y)
 | _,_,_=>none
def opE (E:Env) (M:Mds) (C:Orc) (op:Op) (dst:Option Tmp) (ρ:Operand→AVal) (H:qac):Option Out:=
 match op with
 | .move x=>some (ρ x,[],[])
 | .assign x=>qyX M dst H (ρ x)
 | .pick c a b=>match ρ c with | .bool t=>some (if t=true then ρ a else ρ b,[],[])|_=>none
 | .alloc t=>(E.P.zeroL t).bind fun z=>some (.ptr (qan (shD M.base dst)) ((H (qan (shD M.base dst))).gen+1) 0 0,[qan (shD M.base dst)],[(qan (shD M.base dst),qai H (qan (shD M.base dst)) z.length [z])])
 | .box _ x=>gu ((ρ x).boxable=true) (some (.ptr (qan (shD M.base dst)) ((H (qan (shD M.base dst))).gen+1) 0 0,[qan (shD M.base dst)],[(qan (shD M.base dst),qai H (qan (shD M.base dst)) (ρ x).cellsV.length [(ρ x).cellsV])]))
 | .build t ps=>gu (E.P.isComp t=true) ((E.P.zeroL t).bind fun z=>(qfV (E.P.places t) z (ps.toList.map fun p=>(p.1,ρ p.2))).bind fun cs=>some (.agg (qyN M.cur dst cs),[],[]))
 | .buildSlice t len ps=>(E.P.elemO t).bind fun size=>gu (0<size) ((E.P.elemZero t).bind fun z=>gu (z.length=size) (gu (len * size≤16777216) ((qea size (List.replicate len z) (ps.toList.map fun p=>(p.1,ρ p.2))).bind fun rows=>
   bsE (qxN M.cur dst) H (qan (shD M.base dst)) size len rows)))
 | .load t x=>(E.P.szO t).bind fun n=>(E.P.rowO t).bind fun g=>gu (g=false→n=1) (qfW H g n (ρ x))
 | .store t x y=>(E.P.szO t).bind fun n=>qhQ H n (ρ x) (ρ y)
 | .nilCheck x=>gu (qn2 (ρ x)=true) (some (ρ x,[],[]))
 | .binOp op t x y _=>(qbG E.P op t (ρ x) (ρ y)).bind fun v=>some (v,[],[])
 | .unOp op _ x=>(unV op (ρ x)).bind fun v=>some (v,[],[])
 | .convert s d x=>qho E.P H s d (shD M.base dst) (ρ x)
 | .makeFunc f first cap=>some (.fn f (first.toList.map ρ) (cap.toList.map ρ),[],[])
 | .makeSlice t l c=>match ρ l,ρ c with
  | .int _ nl,.int _ nc=>gu (0≤nl) (gu (nl≤nc) ((E.P.elemO t).bind fun size=>gu (0<size) ((E.P.elemBytes t).bind fun bytes=>(E.P.elemZero t).bind fun z=>gu (z.length=size)
   (gu ((bytes:Int) * nc≤281474976710656) (gu (nc≤9223372036854775807) (some (.osl (qan (shD M.base dst)) ((H (qan (shD M.base dst))).gen+1) 0 nl.toNat,[qan (shD M.base dst)],[(qan (shD M.base dst),qbo H (qan (shD M.base dst)) size (List.replicate nl.toNat z) (decide (nl=nc)))])))))))
  | _,_=>none
 | .slice t x lo hi none=>qei E.P H t (ρ x) (lo.map ρ) (hi.map ρ)
 | .slice t x lo (some h) (some m)=>qgB (qxN M.cur dst) E.P H t (ρ x) (lo.map ρ) (ρ h) (ρ m)
 | .fieldAddr s x f=>(E.P.fldO s f).bind fun a=>qhR a.1 (ρ x)
 | .field s x f=>(E.P.fldO s f).bind fun a=>qow a.2.2 a.1 a.2.1 (ρ x)
 | .indexAddr t x ix=>match ρ ix with | .int _ n=>gu (0≤n) (qa8 E.P H t (ρ x) n)|_=>none
 | .index t x ix=>match ρ ix with | .int _ n=>gu (0≤n) (qfL E.P t (ρ x) n)|_=>none
 | .extract x i=>qBP i (ρ x)
 | .call ⟨.value g,⟨args⟩,_⟩=>match ρ g with | .fn (.func f) first cap=>qeu E M (ghO M.gh dst ρ C) f (first++args.map ρ++cap) (shD M.base dst) H | _=>none
 | .call ⟨.builtin b,⟨args⟩,ts⟩=>qeZ E (qxN M.cur dst) b args ts (shD M.base dst) ρ H
 | .sliceToArrayPointer t x=>(qyJ E.P t (ρ x)).bind fun v=>some (v,[],[])
 | _=>none
end Go.Am
