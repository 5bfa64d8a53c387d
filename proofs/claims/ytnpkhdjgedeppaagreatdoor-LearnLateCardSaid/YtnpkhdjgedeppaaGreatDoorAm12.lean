import Derived.Test.YtnpkhdjgedeppaaGreatDoorAm11
namespace Go.Am
mutual
theorem qzk (H:qac):∀(v:AVal),v.clo=true→Pk H v v [] []
 | .agg cs,h=> .agg (qmf H cs h)
 | .tup cs,h=> .tup (qmf H cs h)
 | .bool _,h=> .plain h
 | .int _ _,h=> .plain h
 | .str _,h=> .plain h
 | .sc _,h=> .plain h
 | .iptr _,h=> .plain h
 | .slice _ _,h=> .plain h
 | .junk,h=> .plain h
 | .ptr _ _ _ _,h=>by simp [AVal.clo,AVal.plain]at h
 | .osl _ _ _ _,h=>by simp [AVal.clo,AVal.plain]at h
 | .fn _ _ _,h=>by simp [AVal.clo,AVal.plain]at h
 | .iface _ _,h=>by simp [AVal.clo,AVal.plain]at h
 | .usl _ _,h=>by simp [AVal.clo,AVal.plain]at h
 | .uptr _,h=>by simp [AVal.clo,AVal.plain]at h
theorem qmf (H:qac):∀(vs:List AVal),qbL vs=true→Pks H vs vs [] []
 | [],_=> .nil
 | v::vs,h=>by
  simp only [qbL,Bool.and_eq_true]at h
  have:=Pks.cons (qzk H v h.1) (qmf H vs h.2)
  simpa using this
end
mutual
theorem qrG (H:qac):∀(v:AVal),v.clo=true→PkC H v v []
 | .agg cs,h=> .agg (qgB H cs h)
 | .tup cs,h=> .tup (qgB H cs h)
 | .bool _,h=> .plain h
 | .int _ _,h=> .plain h
 | .str _,h=> .plain h
 | .sc _,h=> .plain h
 | .iptr _,h=> .plain h
 | .slice _ _,h=> .plain h
 | .junk,h=> .plain h
 | .ptr _ _ _ _,h=>by simp [AVal.clo,AVal.plain]at h
 | .osl _ _ _ _,h=>by simp [AVal.clo,AVal.plain]at h
 | .fn _ _ _,h=>by simp [AVal.clo,AVal.plain]at h
 | .iface _ _,h=>by simp [AVal.clo,AVal.plain]at h
 | .usl _ _,h=>by simp [AVal.clo,AVal.plain]at h
 | .uptr _,h=>by simp [AVal.clo,AVal.plain]at h
theorem qgB (H:qac):∀(vs:List AVal),qbL vs=true→PkCs H vs vs []
 | [],_=> .nil
 | v::vs,h=>by
  simp only [qbL,Bool.and_eq_true]at h
  have:=PkCs.cons (qrG H v h.1) (qgB H vs h.2)
  simpa using this
end
theorem qn9 (H:qac):∀(rs:List (List AVal)),rs.all qbL=true→PkRs H rs rs []
 | [],_=> .nil
 | r::rs,h=>by
  simp only [List.all_cons,Bool.and_eq_true]at h
  have:=PkRs.cons (qgB H r h.1) (qn9 H rs h.2)
  simpa using this
mutual
theorem qAm (H:qac):∀(v:AVal) (id:Nat),v.clo=true→qie H id v=v∧qcZ H id v=[]
 | .agg cs,id,h=>by obtain ⟨h1,h2⟩:=qeY H cs id 0 h;exact ⟨by simp [qie,h1],by simp [qcZ,h2]⟩
 | .tup cs,id,h=>by obtain ⟨h1,h2⟩:=qeY H cs id 0 h;exact ⟨by simp [qie,h1],by simp [qcZ,h2]⟩
 | .bool _,_,_=>⟨rfl,rfl⟩
 | .int _ _,_,_=>⟨rfl,rfl⟩
 | .str _,_,_=>⟨rfl,rfl⟩
 | .sc _,_,_=>⟨rfl,rfl⟩
 | .iptr _,_,_=>⟨rfl,rfl⟩
 | .slice _ _,_,_=>⟨rfl,rfl⟩
 | .junk,_,_=>⟨rfl,rfl⟩
 | .ptr _ _ _ _,_,h=>by simp [AVal.clo,AVal.plain]at h
 | .osl _ _ _ _,_,h=>by simp [AVal.clo,AVal.plain]at h
 | .fn _ _ _,_,h=>by simp [AVal.clo,AVal.plain]at h
 | .iface _ _,_,h=>by simp [AVal.clo,AVal.plain]at h
 | .usl _ _,_,h=>by simp [AVal.clo,AVal.plain]at h
 | .uptr _,_,h=>by simp [AVal.clo,AVal.plain]at h
theorem qeY (H:qac):∀(vs:List AVal) (id k:Nat),qbL vs=true→qaX H id k vs=vs∧qba H id k vs=[]
 | [],_,_,_=>⟨rfl,rfl⟩
 | v::vs,id,k,h=>by
  simp only [qbL,Bool.and_eq_true]at h
  obtain ⟨h1,h2⟩:=qAm H v (cid id k) h.1
  obtain ⟨h3,h4⟩:=qeY H vs id (k+1) h.2
  exact ⟨by simp [qaX,h1,h3],by simp [qba,h2,h4]⟩
end
theorem qbi {E:Env} {f:FuncId} {st:Nat} {ds:List AVal} {r:AVal} {ls:List AVal} (h1:∀c,Am.Spec E f (.sc (.slice none 0 c)::ds) r ls) (h2:∀a c,Am.Spec E f (.sc (.slice (some a) 0 c)::ds) r ls):Am.Spec E f (.slice st []::ds) r ls:=by
 intro S w xs U hex hG hst ⟨y,ys,U1,U2,hx,hu,ho,hos⟩ hUn hUb
 obtain ⟨⟨a,cap,rfl,hle,_⟩,hU1⟩:=ho
 subst hx
 have e:∀v,qbV (.slice st []::ds) (v::ys)=qbV (.sc v::ds) (v::ys):=fun v=>rfl
 rw [e]
 cases a with
 | none=>exact h1 cap S w _ U hex hG hst ⟨_,ys,U1,U2,rfl,hu,⟨rfl,hU1⟩,hos⟩ hUn hUb
 | some a=>exact h2 a cap S w _ U hex hG hst ⟨_,ys,U1,U2,rfl,hu,⟨rfl,hU1⟩,hos⟩ hUn hUb
theorem qo7 (P:Program) (t:TypeId) (n m:Nat):qbF P .eql t (.sc (.slice none n m)) (.sc (.slice none 0 0))=if (P.elemO t).isSome=true then some (.bool true) else qbF P .eql t (.sc (.slice none n m)) (.sc (.slice none 0 0)):=by
 split
 ·rename_i h
  obtain ⟨e,he⟩:=qbB h
  simp [qbF,he]
 ·rfl
theorem qmg (P:Program) (t:TypeId) (a:Addr) (n m:Nat):qbF P .eql t (.sc (.slice (some a) n m)) (.sc (.slice none 0 0))=if (P.elemO t).isSome=true then some (.bool false) else qbF P .eql t (.sc (.slice (some a) n m)) (.sc (.slice none 0 0)):=by
 split
 ·rename_i h
  obtain ⟨e,he⟩:=qbB h
  simp [qbF,he]
 ·rfl
theorem qmh (P:Program) (t:TypeId) (st:Nat) (r:List AVal) (rs:List (List AVal)):qbF P .eql t (.slice st (r::rs)) (.sc (.slice none 0 0))=if (P.elemO t).isSome=true then some (.bool false) else qbF P .eql t (.slice st (r::rs)) (.sc (.slice none 0 0)):=by
 split
 ·rename_i h
  obtain ⟨e,he⟩:=qbB h
  simp [qbF,he]
 ·rfl
def qfy:List AVal→AVal
 | [v]=>v
 | vs=> .tup vs
theorem qj3 (v:AVal):qfy [v]=v:=rfl
theorem qj4 (v w:AVal) (vs:List AVal):qfy (v::w::vs)= .tup (v::w::vs):=rfl
theorem qmi (cs):(AVal.agg cs).boxable=true:=rfl
theorem qmj (l):(AVal.str l).boxable=true:=rfl
theorem qmk (k n):(AVal.int k n).boxable=true:=rfl
theorem qj5 (b):(AVal.bool b).boxable=true:=rfl
theorem qml (o g i j):(AVal.ptr o g i j).boxable=true:=rfl
theorem qj6 (cs):(AVal.iptr cs).boxable=true:=rfl
theorem qi2 (st es):(AVal.slice st es).boxable=true:=rfl
theorem qmm (o g i n):(AVal.osl o g i n).boxable=true:=rfl
theorem qo8 (f a c):(AVal.fn f a c).boxable=true:=rfl
theorem qj7:(AVal.sc (.slice none 0 0)).boxable=true:=rfl
theorem qj8:(AVal.sc (.pointer none)).boxable=true:=rfl
theorem qo9 (cs):(AVal.agg cs).cellsV=cs:=rfl
theorem qpa (l):(AVal.str l).cellsV=[.str l]:=rfl
theorem qpb (k n):(AVal.int k n).cellsV=[.int k n]:=rfl
theorem qmn (b):(AVal.bool b).cellsV=[.bool b]:=rfl
theorem qpc (o g i j):(AVal.ptr o g i j).cellsV=[.ptr o g i j]:=rfl
theorem qmo (cs):(AVal.iptr cs).cellsV=[.iptr cs]:=rfl
theorem qj9 (st es):(AVal.slice st es).cellsV=[.slice st es]:=rfl
theorem qpd (o g i n):(AVal.osl o g i n).cellsV=[.osl o g i n]:=rfl
theorem qrH (f a c):(AVal.fn f a c).cellsV=[.fn f a c]:=rfl
theorem qrI (v):(AVal.sc v).cellsV=[.sc v]:=rfl
theorem qAn (l):(AVal.str l).one=true:=rfl
theorem qAo (k n):(AVal.int k n).one=true:=rfl
theorem qvx (b):(AVal.bool b).one=true:=rfl
theorem qAp (o g i j):(AVal.ptr o g i j).one=true:=rfl
theorem qvy (cs):(AVal.iptr cs).one=true:=rfl
theorem qrJ (st es):(AVal.slice st es).one=true:=rfl
theorem qAq (o g i n):(AVal.osl o g i n).one=true:=rfl
theorem qD4 (f a c):(AVal.fn f a c).one=true:=rfl
theorem qvz:(AVal.sc (.slice none 0 0)).one=true:=rfl
theorem qvA:(AVal.sc (.pointer none)).one=true:=rfl
theorem qgU (r j cs):qbh r j cs=r.take j++cs++r.drop (j+cs.length):=rfl
attribute [go_sem] qmi qmj qmk qj5 qml qj6 qi2 qmm qo8 qj7 qj8 qo9 qpa qpb qmn qpc qmo qj9 qpd qrH qrI qAn qAo qvx qAp qvy qrJ qAq qD4 qvz qvA qgU List.all_cons List.all_nil Bool.and_true Bool.true_and Option.bind_some List.set_cons_zero List.set_cons_succ List.take_nil List.drop_nil List.replicate_zero and_self Nat.zero_add Nat.add_zero Nat.zero_le
theorem qcy {α:Type} (f:α→List AVal) (l:List α) (h:∀x,(f x).all AVal.one=true):qcg (l.map f)=true:=by simp [qcg,h]
theorem qvB:qcg []=true:=rfl
theorem qbt (r rs):qcg (r::rs)=(r.all AVal.one&&qcg rs):=rfl
attribute [go_sem] qvB qbt
attribute [go_sem] qj3 qj4 implies_true false_implies true_implies qah qbr
end Go.Am
