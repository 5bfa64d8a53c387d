import Derived.Test.YtnpkhdjgedeppaaGreatDoorAm11
namespace Go.Am
mutual
theorem qxI (H:qac):∀(v:AVal),v.clo=true→Pk H v v [] []
 | .agg cs,h=> .agg (qk3 H cs h)
 | .tup cs,h=> .tup (qk3 H cs h)
 | .bool _,h=> .plain h
 | .int _ _,h=> .plain h
 | .str _,h=> .plain h
 | .sc _,h=> .plain h
 | .iptr _,h=> .plain h
 | .slice _ _,h=> .plain h
 | .junk,h=> .plain h
 | .ptr _ _ _ _,h=>by simp [AVal.clo,AVal.plain]at h
 | .osl _ _ _ _,h=>by simp [AVal.clo,AVal.plain]at h
 | .fn _ _ _,h=>by simp [AVal.clo,AVal.plain]at h
 | .iface _ _,h=>by simp [AVal.clo,AVal.plain]at h
 | .usl _ _,h=>by simp [AVal.clo,AVal.plain]at h
 | .uptr _,h=>by simp [AVal.clo,AVal.plain]at h
theorem qk3 (H:qac):∀(vs:List AVal),qbN vs=true→Pks H vs vs [] []
 | [],_=> .nil
 | v::vs,h=>by
  simp only [qbN,Bool.and_eq_true]at h
  have:=Pks.cons (qxI H v h.1) (qk3 H vs h.2)
  simpa using this
end
mutual
theorem qqw (H:qac):∀(v:AVal),v.clo=true→PkC H v v []
 | .agg cs,h=> .agg (qf4 H cs h)
 | .tup cs,h=> .tup (qf4 H cs h)
 | .bool _,h=> .plain h
 | .int _ _,h=> .plain h
 | .str _,h=> .plain h
 | .sc _,h=> .plain h
 | .iptr _,h=> .plain h
 | .slice _ _,h=> .plain h
 | .junk,h=> .plain h
 | .ptr _ _ _ _,h=>by simp [AVal.clo,AVal.plain]at h
 | .osl _ _ _ _,h=>by simp [AVal.clo,AVal.plain]at h
 | .fn _ _ _,h=>by simp [AVal.clo,AVal.plain]at h
 | .iface _ _,h=>by simp [AVal.clo,AVal.plain]at h
 | .usl _ _,h=>by simp [AVal.clo,AVal.plain]at h
 | .uptr _,h=>by simp [AVal.clo,AVal.plain]at h
theorem qf4 (H:qac):∀(vs:List AVal),qbN vs=true→PkCs H vs vs []
 | [],_=> .nil
 | v::vs,h=>by
  simp only [qbN,Bool.and_eq_true]at h
  have:=PkCs.cons (qqw H v h.1) (qf4 H vs h.2)
  simpa using this
end
theorem qm7 (H:qac):∀(rs:List (List AVal)),rs.all qbN=true→PkRs H rs rs []
 | [],_=> .nil
 | r::rs,h=>by
  simp only [List.all_cons,Bool.and_eq_true]at h
  have:=PkRs.cons (qf4 H r h.1) (qm7 H rs h.2)
  simpa using this
mutual
theorem qyD (H:qac):∀(v:AVal) (id:Nat),v.clo=true→qhE H id v=v∧qcR H id v=[]
 | .agg cs,id,h=>by obtain ⟨h1,h2⟩:=qeH H cs id 0 h;exact ⟨by simp [qhE,h1],by simp [qcR,h2]⟩
 | .tup cs,id,h=>by obtain ⟨h1,h2⟩:=qeH H cs id 0 h;exact ⟨by simp [qhE,h1],by simp [qcR,h2]⟩
 | .bool _,_,_=>⟨rfl,rfl⟩
 | .int _ _,_,_=>⟨rfl,rfl⟩
 | .str _,_,_=>⟨rfl,rfl⟩
 | .sc _,_,_=>⟨rfl,rfl⟩
 | .iptr _,_,_=>⟨rfl,rfl⟩
 | .slice _ _,_,_=>⟨rfl,rfl⟩
 | .junk,_,_=>⟨rfl,rfl⟩
 | .ptr _ _ _ _,_,h=>by simp [AVal.clo,AVal.plain]at h
 | .osl _ _ _ _,_,h=>by simp [AVal.clo,AVal.plain]at h
 | .fn _ _ _,_,h=>by simp [AVal.clo,AVal.plain]at h
 | .iface _ _,_,h=>by simp [AVal.clo,AVal.plain]at h
 | .usl _ _,_,h=>by simp [AVal.clo,AVal.plain]at h
 | .uptr _,_,h=>by simp [AVal.clo,AVal.plain]at h
theorem qeH (H:qac):∀(vs:List AVal) (id k:Nat),qbN vs=true→qaU H id k vs=vs∧qa9 H id k vs=[]
 | [],_,_,_=>⟨rfl,rfl⟩
 | v::vs,id,k,h=>by
  simp only [qbN,Bool.and_eq_true]at h
  obtain ⟨h1,h2⟩:=qyD H v (cid id k) h.1
  obtain ⟨h3,h4⟩:=qeH H vs id (k+1) h.2
  exact ⟨by simp [qaU,h1,h3],by simp [qa9,h2,h4]⟩
end
theorem qbg {E:Env} {f:FuncId} {st:Nat} {ds:List AVal} {r:AVal} {ls:List AVal} (h1:∀c,Am.Spec E f (.sc (.slice none 0 c)::ds) r ls) (h2:∀a c,Am.Spec E f (.sc (.slice (some a) 0 c)::ds) r ls):Am.Spec E f (.slice st []::ds) r ls:=by
 intro S w xs U hex hG hst ⟨y,ys,U1,U2,hx,hu,ho,hos⟩ hUn hUb
 obtain ⟨⟨a,cap,rfl,hle,_⟩,hU1⟩:=ho
 subst hx
 have e:∀v,qbS (.slice st []::ds) (v::ys)=qbS (.sc v::ds) (v::ys):=fun v=>rfl
 rw [e]
 cases a with
 | none=>exact h1 cap S w _ U hex hG hst ⟨_,ys,U1,U2,rfl,hu,⟨rfl,hU1⟩,hos⟩ hUn hUb
 | some a=>exact h2 a cap S w _ U hex hG hst ⟨_,ys,U1,U2,rfl,hu,⟨rfl,hU1⟩,hos⟩ hUn hUb
theorem qoa (P:Program) (t:TypeId) (n m:Nat):qbG P .eql t (.sc (.slice none n m)) (.sc (.slice none 0 0))=if (P.elemO t).isSome=true then some (.bool true) else qbG P .eql t (.sc (.slice none n m)) (.sc (.slice none 0 0)):=by
 split
 ·rename_i h
  obtain ⟨e,he⟩:=qbv h
  simp [qbG,he]
 ·rfl
theorem qk4 (P:Program) (t:TypeId) (a:Addr) (n m:Nat):qbG P .eql t (.sc (.slice (some a) n m)) (.sc (.slice none 0 0))=if (P.elemO t).isSome=true then some (.bool false) else qbG P .eql t (.sc (.slice (some a) n m)) (.sc (.slice none 0 0)):=by
 split
 ·rename_i h
  obtain ⟨e,he⟩:=qbv h
  simp [qbG,he]
 ·rfl
theorem qk5 (P:Program) (t:TypeId) (st:Nat) (r:List AVal) (rs:List (List AVal)):qbG P .eql t (.slice st (r::rs)) (.sc (.slice none 0 0))=if (P.elemO t).isSome=true then some (.bool false) else qbG P .eql t (.slice st (r::rs)) (.sc (.slice none 0 0)):=by
 split
 ·rename_i h
  obtain ⟨e,he⟩:=qbv h
  simp [qbG,he]
 ·rfl
def qfe:List AVal→AVal
 | [v]=>v
 | vs=> .tup vs
theorem qjb (v:AVal):qfe [v]=v:=rfl
theorem qjc (v w:AVal) (vs:List AVal):qfe (v::w::vs)= .tup (v::w::vs):=rfl
theorem qk6 (cs):(AVal.agg cs).boxable=true:=rfl
theorem qk7 (l):(AVal.str l).boxable=true:=rfl
theorem qk8 (k n):(AVal.int k n).boxable=true:=rfl
theorem qjd (b):(AVal.bool b).boxable=true:=rfl
theorem qk9 (o g i j):(AVal.ptr o g i j).boxable=true:=rfl
theorem qje (cs):(AVal.iptr cs).boxable=true:=rfl
theorem qim (st es):(AVal.slice st es).boxable=true:=rfl
theorem qla (o g i n):(AVal.osl o g i n).boxable=true:=rfl
theorem qob (f a c):(AVal.fn f a c).boxable=true:=rfl
theorem qjf:(AVal.sc (.slice none 0 0)).boxable=true:=rfl
theorem qjg:(AVal.sc (.pointer none)).boxable=true:=rfl
theorem qoc (cs):(AVal.agg cs).cellsV=cs:=rfl
theorem qod (l):(AVal.str l).cellsV=[.str l]:=rfl
theorem qoe (k n):(AVal.int k n).cellsV=[.int k n]:=rfl
theorem qlb (b):(AVal.bool b).cellsV=[.bool b]:=rfl
theorem qof (o g i j):(AVal.ptr o g i j).cellsV=[.ptr o g i j]:=rfl
theorem qlc (cs):(AVal.iptr cs).cellsV=[.iptr cs]:=rfl
theorem qjh (st es):(AVal.slice st es).cellsV=[.slice st es]:=rfl
theorem qog (o g i n):(AVal.osl o g i n).cellsV=[.osl o g i n]:=rfl
theorem qqx (f a c):(AVal.fn f a c).cellsV=[.fn f a c]:=rfl
theorem qqy (v):(AVal.sc v).cellsV=[.sc v]:=rfl
theorem qyE (l):(AVal.str l).one=true:=rfl
theorem qyF (k n):(AVal.int k n).one=true:=rfl
theorem quf (b):(AVal.bool b).one=true:=rfl
theorem qyG (o g i j):(AVal.ptr o g i j).one=true:=rfl
theorem qug (cs):(AVal.iptr cs).one=true:=rfl
theorem qqz (st es):(AVal.slice st es).one=true:=rfl
theorem qyH (o g i n):(AVal.osl o g i n).one=true:=rfl
theorem qB1 (f a c):(AVal.fn f a c).one=true:=rfl
theorem quh:(AVal.sc (.slice none 0 0)).one=true:=rfl
theorem qui:(AVal.sc (.pointer none)).one=true:=rfl
theorem qgk (r j cs):qbf r j cs=r.take j++cs++r.drop (j+cs.length):=rfl
attribute [go_sem] qk6 qk7 qk8 qjd qk9 qje qim qla qob qjf qjg qoc qod qoe qlb qof qlc qjh qog qqx qqy qyE qyF quf qyG qug qqz qyH qB1 quh qui qgk List.all_cons List.all_nil Bool.and_true Bool.true_and Option.bind_some List.set_cons_zero List.set_cons_succ List.take_nil List.drop_nil List.replicate_zero and_self Nat.zero_add Nat.add_zero Nat.zero_le
theorem qcu {α:Type} (f:α→List AVal) (l:List α) (h:∀x,(f x).all AVal.one=true):qcb (l.map f)=true:=by simp [qcb,h]
theorem quj:qcb []=true:=rfl
theorem qbp (r rs):qcb (r::rs)=(r.all AVal.one&&qcb rs):=rfl
attribute [go_sem] quj qbp
attribute [go_sem] qjb qjc implies_true false_implies true_implies qai qbo
end Go.Am
