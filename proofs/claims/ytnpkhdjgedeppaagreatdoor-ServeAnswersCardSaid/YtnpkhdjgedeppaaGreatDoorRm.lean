import Derived.Test.YtnpkhdjgedeppaaGreatDoorFc
namespace Go.Am
set_option linter.unusedVariables false
set_option linter.unusedSectionVars false
def qev (st:Nat):List AVal:=List.replicate st .junk
def qew (n:Nat) (H:qac):qac:=H.set 1 { H 1 with rows:=(H 1).rows++List.replicate n (qev (H 1).st),exact:=true }
def qkr (n:Nat) (ds:List AVal):St:=⟨(qjP ds).fr,qew n (qjP ds).H⟩
section
variable {E:Env}
theorem qpH {S U0:Nat→Prop} {w:World} (n:Nat) (c:Ctx) (h:HeapOk S U0 w c) (h1:(c.H 1).mode= .live) (h2:(c.H 1).rows.length+n=(c.φ 1).cap) :
  ∃c',CtxLe c c'∧HeapOk S U0 w c'∧c'.H=qew n c.H∧c'.S=c.S∧c'.w=c.w:=by
 have hob:=h.objs 1 (by rw [h1];simp)
 have key:CtxLe c ⟨c.S,c.w,c.φ,qew n c.H⟩→qcO ⟨c.S,c.w,c.φ,qew n c.H⟩ (c.φ 1).b (c.φ 1).base (c.H 1).st ((c.H 1).rows++List.replicate n (qev (c.H 1).st)):=by
  intro hle i r hi
  rw [List.getElem?_append]at hi
  split at hi
  ·exact (hob.rows.mono hle rfl) i r hi
  ·rename_i hge
   rw [List.getElem?_replicate]at hi
   split at hi
   ·rename_i hlt
    simp only [Option.some.injEq]at hi
    subst hi
    refine ⟨by simp [qev],fun j v hj=>?_⟩
    simp only [qev,List.getElem?_replicate]at hj
    split at hj
    ·rename_i hjs
     simp only [Option.some.injEq]at hj
     subst hj
     have hcap:(c.φ 1).cap≠0:=by omega
     have hb:i * (c.H 1).st+(c.H 1).st≤(c.φ 1).cap * (c.H 1).st:=by
      rw [←Nat.succ_mul];exact Nat.mul_le_mul_right _ (by omega)
     have hs:=(hob.room hcap).cell (off:=(c.φ 1).base+i * (c.H 1).st+j) (by omega)
     obtain ⟨x,hx⟩:=Option.isSome_iff_exists.1 hs
     exact ⟨x,hx,trivial⟩
    ·cases hj
   ·cases hi
 obtain ⟨u1,u2⟩:=h.update' (c':=⟨c.S,c.w,c.φ,qew n c.H⟩) 1 { c.H 1 with rows:=(c.H 1).rows++List.replicate n (qev (c.H 1).st),exact:=true } (c.φ 1) rfl rfl (by funext j;split<;>simp_all) (Keep.refl _ _)
  (Nat.le_refl _) (fun _ hm=>⟨hm,rfl,rfl,by simp⟩)
  (fun hle _=>⟨by simp [qew];omega,by simpa [qew]using hob.own,by simpa [qew]using key hle,by simpa [qew]using hob.room,by simp [qew];omega⟩)
  (fun hl hm hs=>(hob.own hl).1 h1 hs) (fun j hj hm hc hl hx e=>h.inj j 1 hj hm h1 hc hl e.symm) (fun _ hl=>h.own 1 h1 hl)
 exact ⟨_,u1,u2,rfl,rfl,rfl⟩
theorem qwH {f:FuncId} {fn:Func} {code:Code} {st:Nat} {es:List (List AVal)} {ds ls:List AVal} {r:AVal} (n:Nat) (hf:E.P.funcs[f]?=some fn) (hb:fn.body=some code) (hm:E.P.follows .mixedOrders=true) (hok:qb7 fn.ntmps code=true) (hlen:(AVal.usl st es::ds).length≤fn.ntmps)
  (hids:((qa9 qac.nil 0 0 (AVal.usl st es::ds)).map (·.1)).Nodup) (h:aw E code (fun e s=>(e= .normal∨e= .ret)∧Ret E fn.results.toList (AVal.usl st es::ds) r ls s) (qkr n (AVal.usl st es::ds)))
  {S:Nat→Prop} {w:World} {xs:List Value} {U:List Nat} (hcap:∀a k cap,xs[0]?=some (.slice a k cap)→cap=k+n) (hG:qdx E.Γ S w) (hst:∀b,S b→b<w.heap.size) (hor:qbk S w (AVal.usl st es::ds) xs U) (hUn:U.Nodup) (hUb:∀b∈U,b<w.heap.size∧¬S b) :
  Calls E.P f xs.toArray w fun e w'=>∃x U',e= .returned x∧Keep (·∈U) w w'∧qbk (qeq S U w U' w') w' (r::ls) (x::qbS (AVal.usl st es::ds) xs) U'∧U'.Nodup∧(∀b∈U',b<w'.heap.size∧(b∈U∨w.heap.size≤b)):=by
 generalize hds:AVal.usl st es::ds=dss at *
 have hxl:xs.length=dss.length:=by
  have:∀(ds:List AVal) (xs:List Value) (U:List Nat),qbk S w ds xs U→xs.length=ds.length:=by
   intro ds
   induction ds with
   | nil=>intro xs U h;simp [h.1]
   | cons d ds ih=>intro xs U ⟨y,ys,U1,U2,hx,_,_,h2⟩;subst hx;simp [ih ys U2 h2]
  exact this _ _ _ hor
 have hok0:HeapOk S (·∈U) w ⟨S,w,fun _=>⟨0,0,0⟩,qac.nil⟩:=
  ⟨hst,fun b hb=> .inl hb,fun o hm=>by simp [qac.nil]at hm,fun o o' _ hm=>by simp [qac.nil]at hm,fun o hm=>by simp [qac.nil]at hm,Keep.refl _ _⟩
 obtain ⟨c0,o1,o2⟩:=qcF qac.nil dss 0 0 ⟨S,w,fun _=>⟨0,0,0⟩,qac.nil⟩ xs U hok0 hor ⟨hUn,fun b hb=>(hUb b hb).2,fun b _ o hm=>by simp [qac.nil]at hm,fun b hb=> .inl hb⟩ hids (fun _ _=>rfl)
 have hol:(qaU qac.nil 0 0 dss).length=dss.length:=qd1 _ _ _ _
 obtain ⟨g1,g2⟩:=qlv qac.nil dss 0 0 st es (by rw [←hds];rfl)
 rw [Nat.zero_add]at g1 g2
 have hH:c0.H 1=qai qac.nil 1 st es:=by rw [o1.H];exact qfn g2 hids
 obtain ⟨c0',m1,m2,m3,m4,m5⟩:=qpH n c0 o1.ok (by rw [hH];rfl) (by
  obtain ⟨y,hy1,hy2⟩:=o2.get 0 _ g1
  obtain ⟨a,m,cap,rfl,e2,e3⟩:=hy2
  obtain ⟨rfl,_,e4,_⟩:=e3 (by rw [hH];rfl) (by rw [hH];simp [qai])
  have:=hcap a es.length cap hy1
  rw [hH];show es.length+n=_;omega)
 have hrel0:Rel E c0' S (·∈U) w fn.ntmps (qa3 0 dss) (qbS dss xs) (qkr n dss) c0' { tmps:=xs.toArray++Array.replicate (fn.ntmps - xs.toArray.size) undef,defers:=[] }:=by
  refine ⟨by rw [m3,o1.H];rfl,m2,?_,fun t=>qar.mono m1 _ _ ?_,by simp;omega,rfl,qap.mono m1 _ _ (qfm dss 0 xs o2),CtxLe.refl _⟩
  ·rw [m4,m5,o1.S,o1.w];exact hG
  ·simp only [qkr,qjP,List.getD_eq_getElem?_getD]
   by_cases ht:t<dss.length
   ·have h1:(qaU qac.nil 0 0 dss)[t]?=some (qaU qac.nil 0 0 dss)[t]:=List.getElem?_eq_getElem (by omega)
    obtain ⟨x,hx,hv⟩:=o2.get t _ h1
    rw [h1]
    simp only [Option.getD_some,Array.getD_eq_getD_getElem?]
    rw [Array.getElem?_append_left (by simp;omega)]
    simp only [List.getElem?_toArray,hx,Option.getD_some]
    exact hv
   ·rw [List.getElem?_eq_none (by omega)]
    trivial
 exact qjQ hf hb hm hok hrel0 rfl (m5.trans o1.w) h
end
noncomputable def fnR (C:Cf) (f:FuncId) (n:Nat) (ds:List AVal):Option Res:=
 (C.E.P.funcs[f]?).bind fun fn=>fn.body.bind fun code=>gu (qek fn code [] ds=true)
  ((evI C.E (C.M.at f) C.X (C.M.loc f) code (qkr n ds)).bind fun p=>gu (qfZ p.1=true) (qxP C.E fn.results.toList (C.M.res f) (C.E.P.resK f) ds p.2.fr p.2.H))
theorem qsE {C:Cf} (hm:C.E.P.follows .mixedOrders=true) (hX:qgN C.E C.X) {f n st es ds q} (h:fnR C f n (.usl st es::ds)=some q)
  {S:Nat→Prop} {w:World} {xs:List Value} {U:List Nat} (hcap:∀a k cap,xs[0]?=some (.slice a k cap)→cap=k+n) (hG:qdx C.E.Γ S w) (hst:∀b,S b→b<w.heap.size) (hor:qbk S w (AVal.usl st es::ds) xs U) (hUn:U.Nodup) (hUb:∀b∈U,b<w.heap.size∧¬S b) :
  Calls C.E.P f xs.toArray w fun e w'=>∃x U',e= .returned x∧Keep (·∈U) w w'∧qbk (qeq S U w U' w') w' (q.1::q.2) (x::qbS (AVal.usl st es::ds) xs) U'∧U'.Nodup∧(∀b∈U',b<w'.heap.size∧(b∈U∨w.heap.size≤b)):=by
 simp only [fnR,qag,Option.bind_eq_some_iff]at h
 obtain ⟨fn,h1,code,h2,h3,p,h4,h5,h6⟩:=h
 simp only [qek,Bool.and_eq_true,decide_eq_true_eq]at h3
 obtain ⟨⟨⟨g1,g2⟩,g3⟩,_⟩:=h3
 obtain ⟨k,hk⟩:=qay.1 h4
 obtain ⟨m,hmm⟩:=qc0 hk
 exact qwH n h1 h2 hm g1 g2 (qcc g3) (qbK (qe1 hm hX m) hmm ⟨qfu h5,qh3 h6⟩) hcap hG hst hor hUn hUb
theorem qnr {C:Cf} {f:FuncId} {g:Func} {code:Code} {rvs:List ResultVar} {ms kss} (hf:C.E.P.funcs[f]?=some g) (hb:g.body=some code) (hr:g.results=List.toArray rvs) {lo:Nat} (hlo:C.M.loc f=lo) (hms:C.M.res f=ms) (hks:C.E.P.resK f=kss) {n ds}
  (hok:qek g code [] ds=true):fnR C f n ds=dw (C.at f) lo code (qE C rvs ms kss ds) ⟨frame 0 (qaU qac.nil 0 0 ds),qew n (qac.nil.setAll (qa9 qac.nil 0 0 ds))⟩:=by
 unfold fnR
 rw [hf]
 simp only [Option.bind_some,hb,gu,hok,if_true,dw,hlo,hms,hks,hr,List.toList_toArray]
 unfold qkr
 rw [Am.start_eq]
 rfl
end Go.Am
