import Derived.Test.YtnpkhdjgedeppaaGreatDoorTCop12
import Derived.Lib.Mul64
namespace Go.Proofs.YtnpkhdjgedeppaaGreatDoor
set_option maxHeartbeats 64000000
open Go.Am
set_option linter.unusedSimpArgs false
set_option linter.unusedVariables false
set_option maxRecDepth 100000
attribute [local irreducible] distR idB sumB
theorem cliP_cases (l : List Jb) (id : Int) : (∃ i : Nat, ∃ h : i < l.length, l[i].id = id ∧ mineJ l[i] = true ∧ findR l id = (i : Int) ∧ cliP l id = (i : Int)) ∨ (cliP l id = -1 ∧ ((findR l id = -1) ∨ ∃ i : Nat, ∃ h : i < l.length, findR l id = (i : Int) ∧ mineJ l[i] = false)) := by
  unfold cliP
  rcases findR_cases l id with ⟨i, hi, hid, _, hf⟩ | ⟨_, hf⟩
  · cases hm : mineJ l[i] with
    | true => left; exact ⟨i, hi, hid, hm, hf, by rw [hf, Int.toNat_natCast, jobG_at hi, if_pos ⟨by omega, hm⟩]⟩
    | false => right; exact ⟨by rw [hf, Int.toNat_natCast, jobG_at hi, if_neg (by simp [hm])], .inr ⟨i, hi, hf, hm⟩⟩
  · right; exact ⟨by rw [hf, if_neg (by omega)], .inl hf⟩
theorem mineJ_iff (j : Jb) : mineJ j = true ↔ j.kind = 1 ∨ j.kind = 2 ∨ j.kind = 3 := by
  unfold mineJ; simp [or_assoc]
theorem seekR_at {n : Nd} {id : Int} {i : Nat} (h : cliP n.jobs id = (i : Int)) : seekR n id = seekC n i id := by
  rw [seekR, h, if_pos (by omega), Int.toNat_natCast]
theorem seekR_none {n : Nd} {id : Int} (h : cliP n.jobs id = -1) : seekR n id = (n, []) := by
  rw [seekR, h, if_neg (by omega)]
theorem nextI_pos (a : Int) : 1 ≤ nextI a := by unfold nextI; split <;> omega
theorem nextI_ne (a : Int) : nextI (nextI a) ≠ nextI a := by
  have := nextI_pos a
  generalize nextI a = b at *
  unfold nextI; split <;> omega
theorem findR_one {j : Jb} {id : Int} (h : j.id = id) : findR [j] id = ((0 : Nat) : Int) := placeG_at (i := 0) (by simp) (by simp) (by simp [jobAt, h])
def doneN (n : Nd) (k : Int) (key val : List UInt8) (x : It) (has : Bool) : List Rs := lastR (n.results ++ [resR (nextI n.jobId) (newC n k key val) x has 0])
theorem settle_one {n : Nd} {id : Int} {j : Jb} (hj : n.jobs = [j]) (h : j.id = id) (x : It) (has : Bool) (e : Int) : settleR n id x has e = { n with jobs := [], results := lastR (n.results ++ [resR id j x has e]) } := by
  unfold settleR
  rw [hj, findR_one h, if_pos (by omega)]
  rfl
theorem begC_ok {n : Nd} {k : Int} {key val : List UInt8} (hj : n.jobs = []) (hr : n.ready = true) (hk : 1 ≤ k ∧ k ≤ 3) (h1 : keyR key = true) (h2 : val.length ≤ 32) : begC n k key val = seekC (addC n k key val) 0 (nextI n.jobId) := by
  have e : begE n k key val = 0 := by
    unfold begE
    rw [if_neg (by rw [h1]; simp; omega), if_neg (by rw [hj, hr]; simp)]
  rw [begC, if_pos e]
  refine seekR_at ?_
  have hm : mineJ (newC n k key val) = true := (mineJ_iff _).2 (by show k = 1 ∨ k = 2 ∨ k = 3; omega)
  have ej : (addC n k key val).jobs = [newC n k key val] := by unfold addC; simp [hj]
  have hf : findR [newC n k key val] (nextI n.jobId) = ((0 : Nat) : Int) := findR_one rfl
  rw [ej]
  unfold cliP
  rw [hf, if_pos ⟨by omega, hm⟩]
theorem alone_put {n : Nd} {k : Int} {key val : List UInt8} (hl : n.list = []) (hj : n.jobs = []) (hr : n.ready = true) (hk : k = 1 ∨ k = 2) (h1 : keyR key = true) (h2 : val.length ≤ 32)
    (hp : (putR n.items key (if k = 1 then val else []) (decide (k = 2))).2.2 = 0) :
    begC n k key val = ({ n with items := (putR n.items key (if k = 1 then val else []) (decide (k = 2))).1, jobId := nextI (nextI n.jobId), results := doneN n k key val (putR n.items key (if k = 1 then val else []) (decide (k = 2))).2.1 (!(putR n.items key (if k = 1 then val else []) (decide (k = 2))).2.1.g) }, []) := by
  rw [begC_ok hj hr (by omega) h1 h2]
  have ej : (addC n k key val).jobs = [newC n k key val] := by unfold addC; simp [hj]
  unfold seekC
  rw [ej]
  have eg : jobG [newC n k key val] 0 = newC n k key val := rfl
  have el : (addC n k key val).list = [] := hl
  have ek : ¬ (newC n k key val).kind = 3 := by show ¬ k = 3; omega
  have eo : ownerR (addC n k key val).me (addC n k key val).list (keyI (newC n k key val).key) = (addC n k key val).me := by rw [el]; rfl
  rw [eg, if_pos eo, if_neg ek]
  obtain ⟨J, hJ⟩ : ∃ J : Jb, J = { newC n k key val with phase := 2 } := ⟨_, rfl⟩
  have hJi : J.id = nextI n.jobId := by rw [hJ]; rfl
  have hJk : (newC n k key val).key = key := rfl
  have hJv : (newC n k key val).val = if k = 1 then val else [] := rfl
  have hJd : (newC n k key val).kind = k := rfl
  have hset : [newC n k key val].set 0 { newC n k key val with phase := 2 } = [J] := by rw [hJ]; rfl
  rw [hset, hJk, hJv, hJd]
  generalize hw : (if k = 1 then val else []) = w at *
  generalize decide (k = 2) = g at *
  have he : beginE { addC n k key val with jobs := [J] } key w g = 0 := by
    unfold beginE
    rw [if_neg (by simp)]
    exact hp
  rw [beginR, if_pos he]
  obtain ⟨cj, hcj⟩ : ∃ cj : Jb, cj = copyJ { addC n k key val with jobs := [J] } (putR n.items key w g).2.1 enZ 0 (nextI n.jobId) := ⟨_, rfl⟩
  have hb : begunR { addC n k key val with jobs := [J] } key w g enZ 0 (nextI n.jobId) = { n with items := (putR n.items key w g).1, jobId := nextI (nextI n.jobId), jobs := [J, cj] } := by
    rw [hcj]; rfl
  rw [hb]
  have hcid : cj.id = nextI (nextI n.jobId) := by rw [hcj]; rfl
  have hck : cj.kind = 4 := by rw [hcj]; rfl
  have hcop : copR [J, cj] (nextI (nextI n.jobId)) = ((1 : Nat) : Int) := by
    refine copR_at (i := 1) (by simp) (placeG_at (i := 1) (by simp) ?_ (by simp [jobAt, hcid])) hck
    have := nextI_ne n.jobId
    simp [jobAt, hJi, this.symm]
  show moreR _ (nextI (nextI n.jobId)) = _
  rw [moreR_at (i := 1) (by simp) hcop]
  have ha : askR (nextI (nextI n.jobId)) n.list cj = (cj, []) := by rw [hl]; rfl
  show moreFin _ 1 (askR _ n.list cj) = _
  rw [ha]
  have hw0 : ¬ 0 < cj.waits := by rw [hcj]; exact Int.lt_irrefl 0
  unfold moreFin
  rw [if_neg hw0]
  have hbj : cj.backJob = nextI n.jobId := by rw [hcj]; rfl
  have hit : cj.item = (putR n.items key w g).2.1 := by rw [hcj]; rfl
  have hne : ¬ nextI n.jobId = 0 := by have := nextI_pos n.jobId; omega
  have hpos : ¬ cj.backJob = 0 := by rw [hbj]; exact hne
  simp only [tellR, hbj, if_neg hne, List.append_nil, hit]
  rw [settle_one (j := J) (by rfl) hJi]
  show (_, _) = (_, _)
  congr 1
  unfold doneN resR
  rw [hJ, hj]
end Go.Proofs.YtnpkhdjgedeppaaGreatDoor
namespace Go.Proofs.YtnpkhdjgedeppaaGreatDoor
set_option maxHeartbeats 64000000
open Go.Am
set_option linter.unusedSimpArgs false
set_option linter.unusedVariables false
set_option maxRecDepth 100000
noncomputable def own4 : Own := fun f => if f ∈ [14, 16, 27, 23, 25, 20, 12, 999999, 999999, 3, 4] then none else some (fun ex ds => fn C2 f ex ds)
theorem own4_ok : OwnOk E own4 := by
  intro f g ex ds q hf hg
  unfold own4 at hf
  split at hf
  · cases hf
  · simp only [Option.some.injEq] at hf
    subst hf
    exact fnE_sound mixed own2_ok hg
noncomputable def M4 : Mds := { M with inls := [(69, 60000), (149, 80000), (70, 100000), (71, 120000), (105, 140000), (91, 160000), (94, 200000), (92, 220000), (93, 240000), (103, 260000), (104, 280000)] }
noncomputable def C4 : Cf := ⟨E, M4, own4⟩
@[go_sem] theorem C4_E : C4.E = E := rfl
@[go_sem] theorem C4_M : C4.M = M4 := rfl
@[go_sem] theorem M4_par : M4.par = M.par := Eq.trans rfl rfl
@[go_sem] theorem M4_res : M4.res = M.res := Eq.trans rfl rfl
@[go_sem] theorem M4_loc : M4.loc = M.loc := Eq.trans rfl rfl
@[go_sem] theorem M4_nl : M4.nl = M.nl := Eq.trans rfl rfl
@[go_sem] theorem M4_cur : M4.cur = [] := Eq.trans rfl rfl
@[go_sem] theorem M4_base : M4.base = 0 := Eq.trans rfl rfl
@[go_sem] theorem M4_gh : M4.gh = none := Eq.trans rfl rfl
@[go_sem] theorem M4_inls : M4.inls = [(69, 60000), (149, 80000), (70, 100000), (71, 120000), (105, 140000), (91, 160000), (94, 200000), (92, 220000), (93, 240000), (103, 260000), (104, 280000)] := Eq.trans rfl rfl
theorem c4_c2 (f : FuncId) (h : f ∉ [14, 16, 27, 23, 25, 20, 12, 999999, 999999, 3, 4]) (ex ds) : fn C4 f ex ds = fn C2 f ex ds :=
  fn_own (g := fun ex ds => fn C2 f ex ds) (by show own4 f = _; unfold own4; rw [if_neg h]) ex ds
def okC4 (f : FuncId) : Bool := decide (f ∉ [14, 16, 27, 23, 25, 20, 12, 999999, 999999, 3, 4]) && okC2 f
theorem c4_c (f : FuncId) (h : okC4 f = true) (ex ds) : fn C4 f ex ds = fn C f ex ds := by
  simp only [okC4, Bool.and_eq_true, decide_eq_true_eq] at h
  exact (c4_c2 f h.1 ex ds).trans (C2_C f h.2 ex ds)
@[go_sem] theorem c4_copies_Copy (ex ds) : fn C4 13 ex ds = fn C 13 ex ds := c4_c _ (by decide) ex ds
@[go_sem] theorem c4_copies_Find (ex ds) : fn C4 150 ex ds = fn C 150 ex ds := c4_c _ (by decide) ex ds
@[go_sem] theorem c4_copies_Settle (ex ds) : fn C4 86 ex ds = fn C 86 ex ds := c4_c _ (by decide) ex ds
@[go_sem] theorem c4_client_mine (ex ds) : fn C4 63 ex ds = fn C 63 ex ds := c4_c _ (by decide) ex ds
@[go_sem] theorem c4_label_Key (ex ds) : fn C4 64 ex ds = fn C 64 ex ds := c4_c _ (by decide) ex ds
@[go_sem] theorem c4_label_Val (ex ds) : fn C4 65 ex ds = fn C 65 ex ds := c4_c _ (by decide) ex ds
@[go_sem] theorem c4_peers_Owner (ex ds) : fn C4 128 ex ds = fn C 128 ex ds := c4_c _ (by decide) ex ds
@[go_sem] theorem c4_store_Get (ex ds) : fn C4 151 ex ds = fn C 151 ex ds := c4_c _ (by decide) ex ds
@[go_sem] theorem c4_Contains (ex ds) : fn C4 66 ex ds = fn C 66 ex ds := c4_c _ (by decide) ex ds
@[go_sem] theorem c4_IndexFunc (ex ds) : fn C4 84 ex ds = fn C 84 ex ds := c4_c _ (by decide) ex ds
@[go_sem] theorem c4_Delete (ex ds) : fn C4 85 ex ds = fn C 85 ex ds := c4_c _ (by decide) ex ds
@[go_sem] theorem nl_on : M.nl 69 = [] := Eq.trans rfl rfl
@[go_sem] theorem nl_send : M.nl 149 = [] := Eq.trans rfl rfl
@[go_sem] theorem nl_seek : M.nl 70 = [] := Eq.trans rfl rfl
@[go_sem] theorem nl_done : M.nl 71 = [] := Eq.trans rfl rfl
@[go_sem] theorem nl_settle : M.nl 105 = [] := Eq.trans rfl rfl
@[go_sem] theorem nl_fail : M.nl 91 = [] := Eq.trans rfl rfl
@[go_sem] theorem c4_place (ex ds) : fn C4 90 ex ds = fn C 90 ex ds := c4_c _ (by decide) ex ds
@[go_sem] theorem nl_again : M.nl 103 = [] := Eq.trans rfl rfl
@[go_sem] theorem nl_nearer : M.nl 93 = [] := Eq.trans rfl rfl
@[go_sem] theorem nl_result : M.nl 104 = [] := Eq.trans rfl rfl
@[go_sem] theorem e63 (j : Jb) : fn C 63 [] [.agg [.int .i64 j.id, .int .i64 j.kind, .int .i64 j.phase, .int .i64 j.hops, .int .i64 j.tries, .int .i64 j.til, .str j.key, .str j.val, .str j.owner.name, .int .u64 (j.owner.id : Int), .int .i64 j.owner.fr, .int .i64 j.owner.un, .int .i64 j.owner.ix, .str j.owner.tag, .str j.item.k, .str j.item.v, .int .i64 j.item.n, .bool j.item.g, .int .i64 j.acks, .int .i64 j.waits, .slice 1 (j.asked.map strRow), .str j.back.name, .int .u64 (j.back.id : Int), .int .i64 j.back.fr, .int .i64 j.back.un, .int .i64 j.back.ix, .str j.back.tag, .int .i64 j.backRid, .int .i64 j.backJob]] = some (.bool (mineJ j), []) := by
  rw [fn_text Tryz.func63 rfl rfl Tryz.results63 fq63.1 rfl rfl (by kernel_rfl)]
  simp -implicitDefEqProofs -dsimp +contextual (maxSteps := 9999999) (disch := first | omega | simp only [go_sem] <;> omega | refine ib ?_; kernel_rfl) only [go_sem, seval, ↓reduceIte]
  (repeat' (refine kD_intro (fun _ => ?_) (fun _ => ?_))) <;> exact Res_bool (by unfold mineJ; simp [*])
theorem ePlace (c0 c1 c2 c3 c4 c5 c6 c7 c8 c9 c10 c11 c12 c13 c14 c15 c16 c17 c18 c19 c20 c21 r0 r1 r2 r3 r4 r5 r7 r8 r9 r10 r11 r12 r13 r14 r15 r16 r17 r18 r19 r20 r21 r22 r23 r24 r25 r26 r27 r28 X F : AVal) (key : List UInt8) (hk : key.length ≤ 10000) : fn C 90 [] [.iptr [c0, c1, c2, c3, c4, c5, c6, c7, c8, c9, c10, c11, c12, c13, c14, c15, c16, c17, c18, c19, c20, c21, .iptr [r0, r1, r2, r3, r4, r5, .str key, r7, r8, r9, r10, r11, r12, r13, r14, r15, r16, r17, r18, r19, r20, r21, r22, r23, r24, r25, r26, r27, r28], X, F]] = some (.int .u64 (keyI key : Int), []) := by
  have li := e129 key hk
  rw [keyI]
  rw [fn_text Tryz.func90 rfl rfl Tryz.results90 fq90.1 rfl rfl (by kernel_rfl)]
  simp -implicitDefEqProofs -dsimp +contextual (maxSteps := 9999999) (disch := first | omega | simp only [go_sem] <;> omega | refine ib ?_; kernel_rfl) only [go_sem, seval, ↓reduceIte, li]
def FreshC (H : Heap) : Prop := ∀ o, 80000 ≤ o → (o < 60000000 ∨ 61000000 ≤ o) → H o = ⟨0, .dead, 0, [], false⟩
def FreR (H : Heap) (lo : Nat) : Prop := ∀ o, (lo ≤ o ∧ o < lo + 20000) ∨ (lo * 1000 ≤ o ∧ o < (lo + 20000) * 1000) → H o = ⟨0, .dead, 0, [], false⟩
structure WorkC (H : Heap) (n : Nd) (id : Int) (J : AVal) : Prop where
  w : H 60111 = ⟨1, .live, 25, [[.str n.me.name, .int .u64 (n.me.id : Int), .int .i64 n.me.fr, .int .i64 n.me.un, .int .i64 n.me.ix, .str n.me.tag, .int .i64 n.clock, .str n.psk, .int .i64 n.gateI, .str n.gateK, .bool n.ready, .slice 8 (n.pred.map Pr.cs), .slice 8 (n.list.map Pr.cs), .slice 9 (n.fingers.map Fg.cs), .osl 60109015 1 0 n.sessions.length, .osl 60109016 1 0 n.pends.length, .slice 4 (n.items.map It.cs), .osl 60109018 1 0 n.jobs.length, .int .i64 n.rid, .int .i64 n.jobId, .slice 1 (n.draws.map u64Row), .osl 60109022 1 0 n.results.length, J, .sc (.slice none 0 0), .fn (.func 149) [] [.ptr 60106 1 0 0, .ptr 60103 1 0 0]]], false⟩
  v : H 60106 = ⟨1, .live, 1, [[.ptr 60111 1 0 0]], false⟩
  d : H 60103 = ⟨1, .live, 1, [[.int .i64 id]], false⟩
  s : H 60109015 = ⟨1, .live, 20, n.sessions.map Se.cs, false⟩
  p : H 60109016 = ⟨1, .live, 23, n.pends.map Pd.cs, false⟩
  j : H 60109018 = ⟨1, .live, 29, n.jobs.map Jb.cs, false⟩
  r : H 60109022 = ⟨1, .live, 8, n.results.map Rs.cs, false⟩
def EndC (q : Nd × List Ac) (H : Heap) : Prop := ∃ (a b c d ga gb gc gd : Nat) (J X F : AVal), 1000000 ≤ a ∧ 1000000 ≤ b ∧ 1000000 ≤ c ∧ 1000000 ≤ d ∧
  H 60111 = ⟨1, .live, 25, [[.str q.1.me.name, .int .u64 (q.1.me.id : Int), .int .i64 q.1.me.fr, .int .i64 q.1.me.un, .int .i64 q.1.me.ix, .str q.1.me.tag, .int .i64 q.1.clock, .str q.1.psk, .int .i64 q.1.gateI, .str q.1.gateK, .bool q.1.ready, .slice 8 (q.1.pred.map Pr.cs), .slice 8 (q.1.list.map Pr.cs), .slice 9 (q.1.fingers.map Fg.cs), .osl a ga 0 q.1.sessions.length, .osl b gb 0 q.1.pends.length, .slice 4 (q.1.items.map It.cs), .osl c gc 0 q.1.jobs.length, .int .i64 q.1.rid, .int .i64 q.1.jobId, .slice 1 (q.1.draws.map u64Row), .osl d gd 0 q.1.results.length, J, X, F]], false⟩ ∧
  H a = ⟨ga, .live, 20, q.1.sessions.map Se.cs, false⟩ ∧ H b = ⟨gb, .live, 23, q.1.pends.map Pd.cs, false⟩ ∧ H c = ⟨gc, .live, 29, q.1.jobs.map Jb.cs, false⟩ ∧ H d = ⟨gd, .live, 8, q.1.results.map Rs.cs, false⟩ ∧
  ((X = .sc (.slice none 0 0) ∧ q.2 = []) ∨ (∃ x gx : Nat, X = .osl x gx 0 q.2.length ∧ 80000 ≤ x ∧ ¬ x = 120102 ∧ H x = ⟨gx, .live, 20, q.2.map Ac.cs, false⟩))
theorem WorkC.far {H H' : Heap} {n : Nd} {id : Int} {J : AVal} (h : WorkC H n id J) (hf : ∀ o, (60000 ≤ o ∧ o < 80000) ∨ (60000000 ≤ o ∧ o < 61000000) → H' o = H o) : WorkC H' n id J :=
  ⟨(hf _ (by omega)).trans h.w, (hf _ (by omega)).trans h.v, (hf _ (by omega)).trans h.d, (hf _ (by omega)).trans h.s, (hf _ (by omega)).trans h.p, (hf _ (by omega)).trans h.j, (hf _ (by omega)).trans h.r⟩
theorem WorkC.fin {H : Heap} {n : Nd} {id : Int} {J : AVal} (h : WorkC H n id J) : EndC (n, []) H :=
  ⟨_, _, _, _, _, _, _, _, _, _, _, by omega, by omega, by omega, by omega, h.w, h.s, h.p, h.j, h.r, .inl ⟨rfl, rfl⟩⟩
theorem il_onC (n : Nd) (id : Int) (h : n.mid 1000000) (H : Heap) (hH : ∀ o, 60000 ≤ o → H o = ⟨0, .dead, 0, [], false⟩) (K : AVal × Heap → Option Res) (R : Option Res)
    (k1 : ∀ i H', i < n.jobs.length → cliP n.jobs id = (i : Int) → WorkC H' n id (.ptr 60109018 1 i 0) → FreshC H' → (∀ o, o < 60000 → H' o = H o) → K (.tup [.ptr 60111 1 0 0, .bool true], H') = R)
    (k0 : ∀ H', cliP n.jobs id = -1 → WorkC H' n id (.sc (.pointer none)) → FreshC H' → (∀ o, o < 60000 → H' o = H o) → K (.tup [.ptr 60111 1 0 0, .bool false], H') = R) : @kB _ _ (il C4 69 [(aNd n), .int .i64 id] H) ⟨K⟩ = R := by
  have jl := h.jl
  have g1 := hH 60102 (by omega); have g2 := hH 60103 (by omega); have g3 := hH 60106 (by omega); have g4 := hH 60111 (by omega); have g5 := hH 60109015 (by omega); have g6 := hH 60109016 (by omega); have g7 := hH 60109018 (by omega); have g8 := hH 60109022 (by omega)
  have cp := e13 n h
  rcases cliP_cases n.jobs id with ⟨i, hi, hid, hm, hf, hc⟩ | ⟨hc, hf | ⟨i, hi, hf, hm⟩⟩
  · have row := jb_row n.jobs i hi
    have mi := e63 n.jobs[i]
    rw [hm] at mi
    rw [il_text (C := C4) Tryz.func69 rfl Tryz.results69 (show (C4).M.loc 69 = _ from fq69.1) (by kernel_rfl)]
    simp -implicitDefEqProofs -dsimp +contextual (maxSteps := 9999999) (disch := first | omega | simp only [go_sem] <;> omega | refine ib ?_; kernel_rfl) only [go_sem, seval, ↓reduceIte, g1, g2, g3, g4, g5, g6, g7, g8, cp, hf, row, mi, Nat.not_lt_zero]
    exact k1 i _ hi hc ⟨rfl, rfl, rfl, rfl, rfl, rfl, rfl⟩ (fun o h1 h2 => by repeat (first | exact hH o (by omega) | rw [Heap.set_ne _ _ (by omega)])) (fun o ho => by repeat (first | rfl | rw [Heap.set_ne _ _ (by omega)]))
  · rw [il_text (C := C4) Tryz.func69 rfl Tryz.results69 (show (C4).M.loc 69 = _ from fq69.1) (by kernel_rfl)]
    simp -implicitDefEqProofs -dsimp +contextual (maxSteps := 9999999) (disch := first | omega | simp only [go_sem] <;> omega | refine ib ?_; kernel_rfl) only [go_sem, seval, ↓reduceIte, g1, g2, g3, g4, g5, g6, g7, g8, cp, hf]
    exact k0 _ hc ⟨rfl, rfl, rfl, rfl, rfl, rfl, rfl⟩ (fun o h1 h2 => by repeat (first | exact hH o (by omega) | rw [Heap.set_ne _ _ (by omega)])) (fun o ho => by repeat (first | rfl | rw [Heap.set_ne _ _ (by omega)]))
  · have row := jb_row n.jobs i hi
    have mi := e63 n.jobs[i]
    rw [hm] at mi
    rw [il_text (C := C4) Tryz.func69 rfl Tryz.results69 (show (C4).M.loc 69 = _ from fq69.1) (by kernel_rfl)]
    simp -implicitDefEqProofs -dsimp +contextual (maxSteps := 9999999) (disch := first | omega | simp only [go_sem] <;> omega | refine ib ?_; kernel_rfl) only [go_sem, seval, ↓reduceIte, g1, g2, g3, g4, g5, g6, g7, g8, cp, hf, row, mi, Nat.not_lt_zero]
    exact k0 _ hc ⟨rfl, rfl, rfl, rfl, rfl, rfl, rfl⟩ (fun o h1 h2 => by repeat (first | exact hH o (by omega) | rw [Heap.set_ne _ _ (by omega)])) (fun o ho => by repeat (first | rfl | rw [Heap.set_ne _ _ (by omega)]))
theorem il_settleC (n : Nd) (id : Int) (i : Nat) (hi : i < n.jobs.length) (hid : n.jobs[i].id = id) (h : n.mid 1000000) (x : It) (has : Bool) (e : Int) (H : Heap) (hW : WorkC H n id (.ptr 60109018 1 i 0)) (hF : FreR H 140000) (K : AVal × Heap → Option Res) (R : Option Res)
    (k : ∀ H', EndC (settleR n id x has e, []) H' → (∀ o, o < 60000 → H' o = H o) → K (.tup [], H') = R) : @kB _ _ (il C4 105 [.ptr 60111 1 0 0, .agg [.str x.k, .str x.v, .int .i64 x.n, .bool x.g], .bool has, .int .i64 e] H) ⟨K⟩ = R := by
  obtain ⟨W1, W2, W3, W4, W5, W6, W7⟩ := hW
  have row := jb_row n.jobs i hi
  have se := e86 n id x has e h
  obtain ⟨js, rs, hs⟩ := settle_eta n id x has e
  rw [hs] at se k
  rw [Nd.ocs_eq] at se
  have g1 := hF 140105 (by omega)
  have g2 := hF 140123015 (by omega); have g3 := hF 140123016 (by omega); have g4 := hF 140123018 (by omega); have g5 := hF 140123022 (by omega)
  rw [il_text (C := C4) Tryz.func105 rfl Tryz.results105 (show (C4).M.loc 105 = _ from fq105.1) (by kernel_rfl)]
  simp -implicitDefEqProofs -dsimp +contextual (maxSteps := 9999999) (disch := first | omega | simp only [go_sem] <;> omega | refine ib ?_; kernel_rfl) only [go_sem, seval, ↓reduceIte, W1, W2, W3, W4, W5, W6, W7, row, hid, se, g1, g2, g3, g4, g5]
  exact k _ ⟨140123015, 140123016, 140123018, 140123022, 1, 1, 1, 1, _, _, _, by omega, by omega, by omega, by omega, rfl, rfl, rfl, rfl, rfl, .inl ⟨rfl, rfl⟩⟩ (fun o ho => by repeat (first | rfl | rw [Heap.set_ne _ _ (by omega)]))
end Go.Proofs.YtnpkhdjgedeppaaGreatDoor
namespace Go.Proofs.YtnpkhdjgedeppaaGreatDoor
set_option maxHeartbeats 64000000
open Go.Am
set_option linter.unusedSimpArgs false
set_option linter.unusedVariables false
set_option maxRecDepth 100000
attribute [local irreducible] distR idB sumB
theorem enEq (x y : En) : (x.name = y.name ∧ x.id = y.id ∧ x.fr = y.fr ∧ x.un = y.un ∧ x.ix = y.ix ∧ x.tag = y.tag) = (x = y) := propext (En.eq_iff x y).symm
structure CliK (n : Nd) : Prop where
  md : n.mid 80000
  me : n.me.id ≤ 18446744073709551615
  li : ∀ p ∈ n.list, p.e.id ≤ 18446744073709551615
  clock : 0 ≤ n.clock ∧ n.clock ≤ 1099511627776
  jk : ∀ j ∈ n.jobs, j.key.length ≤ 10000 ∧ j.val.length ≤ 10000
  ji : ∀ j ∈ n.jobs, -9223372036854775808 ≤ j.tries ∧ -9223372036854775808 ≤ j.hops
theorem mid_setj {n : Nd} {k : Nat} (i : Nat) (j j' : Jb) (h : n.mid k) (hj : j ∈ n.jobs) (ha : j'.asked = j.asked) : ({ n with jobs := n.jobs.set i j' } : Nd).mid k :=
  mid_set i j' h (by rw [ha]; exact h.ja j hj)
theorem set_at (l : List Jb) (i : Nat) (J : Jb) (h : i < l.length) : ((l.set i J).map Jb.cs)[i]? = some [.int .i64 J.id, .int .i64 J.kind, .int .i64 J.phase, .int .i64 J.hops, .int .i64 J.tries, .int .i64 J.til, .str J.key, .str J.val, .str J.owner.name, .int .u64 (J.owner.id : Int), .int .i64 J.owner.fr, .int .i64 J.owner.un, .int .i64 J.owner.ix, .str J.owner.tag, .str J.item.k, .str J.item.v, .int .i64 J.item.n, .bool J.item.g, .int .i64 J.acks, .int .i64 J.waits, .slice 1 (J.asked.map strRow), .str J.back.name, .int .u64 (J.back.id : Int), .int .i64 J.back.fr, .int .i64 J.back.un, .int .i64 J.back.ix, .str J.back.tag, .int .i64 J.backRid, .int .i64 J.backJob] := by
  rw [List.getElem?_map, List.getElem?_set_self h]; rfl
theorem set_cs (l : List Jb) (i : Nat) (j : Jb) : (l.map Jb.cs).set i [.int .i64 j.id, .int .i64 j.kind, .int .i64 j.phase, .int .i64 j.hops, .int .i64 j.tries, .int .i64 j.til, .str j.key, .str j.val, .str j.owner.name, .int .u64 (j.owner.id : Int), .int .i64 j.owner.fr, .int .i64 j.owner.un, .int .i64 j.owner.ix, .str j.owner.tag, .str j.item.k, .str j.item.v, .int .i64 j.item.n, .bool j.item.g, .int .i64 j.acks, .int .i64 j.waits, .slice 1 (j.asked.map strRow), .str j.back.name, .int .u64 (j.back.id : Int), .int .i64 j.back.fr, .int .i64 j.back.un, .int .i64 j.back.ix, .str j.back.tag, .int .i64 j.backRid, .int .i64 j.backJob] = (l.set i j).map Jb.cs := by rw [List.map_set]; rfl
theorem il_askC (n : Nd) (id : Int) (i : Nat) (hi : i < n.jobs.length) (hid : n.jobs[i].id = id) (h : n.mid 1000000) (hk : n.jobs[i].key.length ≤ 10000) (to : En) (H : Heap) (hW : WorkC H n id (.ptr 60109018 1 i 0)) (hF : FreR H 200000) (hG : FreR H 80000) (K : AVal × Heap → Option Res) (R : Option Res)
    (k : ∀ H', EndC (askC n i n.jobs[i] to id) H' → (∀ o, o < 60000 → H' o = H o) → K (.tup [], H') = R) : @kB _ _ (il C4 94 [.ptr 60111 1 0 0, .agg [.str to.name, .int .u64 (to.id : Int), .int .i64 to.fr, .int .i64 to.un, .int .i64 to.ix, .str to.tag]] H) ⟨K⟩ = R := by
  obtain ⟨W1, W2, W3, W4, W5, W6, W7⟩ := hW
  have jl := h.jl
  have row := jb_row n.jobs i hi
  have hrow := fun J => set_at n.jobs i J hi
  have g1 := hF 200103 (by omega)
  have g2 := hG 80105 (by omega); have g3 := hG 80106 (by omega); have g4 := hG 80118 (by omega); have g5 := hG 80119 (by omega)
  generalize hj : n.jobs[i] = j at *
  rw [il_text (C := C4) Tryz.func94 rfl Tryz.results94 (show (C4).M.loc 94 = _ from fq94.1) (by kernel_rfl)]
  simp -implicitDefEqProofs -dsimp +contextual (maxSteps := 9999999) (disch := first | omega | simp only [go_sem] <;> omega | refine ib ?_; kernel_rfl) only [go_sem, seval, ↓reduceIte, W1, W2, W3, W4, W5, W6, W7, row, hi, g1, rowsG_start, hrow, List.set_set, ePlace]
  rw [il_text (C := C4) Tryz.func149 rfl Tryz.results149 (show (C4).M.loc 149 = _ from fq149.1) (by kernel_rfl)]
  simp -implicitDefEqProofs -dsimp +contextual (maxSteps := 9999999) (disch := first | omega | simp only [go_sem] <;> omega | refine ib ?_; kernel_rfl) only [go_sem, seval, ↓reduceIte, W1, W2, W3, W4, W5, W6, W7, g2, g3, g4, g5]
  have jn : (askC n i j to id).1.jobs.length = n.jobs.length := by simp [askC]
  refine k _ ⟨60109015, 60109016, 60109018, 60109022, 1, 1, 1, 1, .ptr 60109018 1 i 0, .osl 80119 1 0 1, .fn (.func 149) [] [.ptr 60106 1 0 0, .ptr 60103 1 0 0], by omega, by omega, by omega, by omega, ?_, W4, W5, rfl, W7, .inr ⟨80119, 1, rfl, by omega, by omega, rfl⟩⟩ (fun o ho => by repeat (first | rfl | rw [Heap.set_ne _ _ (by omega)]))
  simp only [jn]
  rfl
theorem askR_len (id : Int) : ∀ (l : List Pr) (j : Jb), (askR id l j).2.length ≤ l.length
  | [], _ => Nat.le_refl _
  | p :: l, j => by
    unfold askR
    split
    · exact Nat.zero_le _
    · split
      · exact Nat.le_succ_of_le (askR_len id l j)
      · exact Nat.succ_le_succ (askR_len id l _)
theorem tell_len (n : Nd) (back : En) (rid job : Int) (x : It) (has : Bool) (e : Int) : (tellR n back rid job x has e).2.length ≤ 1 := by
  unfold tellR; split <;> simp
theorem begin_len (n : Nd) (key val : List UInt8) (gone : Bool) (back : En) (rid job : Int) : (beginR n key val gone back rid job).2.length ≤ n.list.length + 1 := by
  unfold beginR
  split
  · rcases copR_cases (begunR n key val gone back rid job).jobs (nextI n.jobId) with ⟨i, hi, hc⟩ | hc
    · rw [moreR_at hi hc]
      have h1 := askR_len (nextI n.jobId) (begunR n key val gone back rid job).list (begunR n key val gone back rid job).jobs[i]
      have h2 : (begunR n key val gone back rid job).list = n.list := rfl
      rw [h2] at h1 ⊢
      unfold moreFin
      split
      · exact Nat.le_succ_of_le h1
      · rw [List.length_append]
        exact Nat.add_le_add h1 (tell_len _ _ _ _ _ _ _)
    · rw [moreR_none hc]; exact Nat.zero_le _
  · exact Nat.le_trans (tell_len _ _ _ _ _ _ _) (by omega)
theorem WorkC.set {H H' : Heap} {n : Nd} {id : Int} {J : AVal} (h : WorkC H n id J) (i : Nat) (j' : Jb) (hj : H' 60109018 = ⟨1, .live, 29, (n.jobs.set i j').map Jb.cs, false⟩) (hf : ∀ o, o ≠ 60109018 → H' o = H o) : WorkC H' { n with jobs := n.jobs.set i j' } id J :=
  ⟨by rw [hf _ (by omega), h.w]; simp only [List.length_set], (hf _ (by omega)).trans h.v, (hf _ (by omega)).trans h.d, (hf _ (by omega)).trans h.s, (hf _ (by omega)).trans h.p, hj, (hf _ (by omega)).trans h.r⟩
theorem il_seekC (n : Nd) (id : Int) (i : Nat) (hi : i < n.jobs.length) (hid : n.jobs[i].id = id) (h : CliK n) (H : Heap) (hW : WorkC H n id (.ptr 60109018 1 i 0)) (hF : FreshC H) (K : AVal × Heap → Option Res) (R : Option Res)
    (k : ∀ H', EndC (seekC n i id) H' → (∀ o, o < 60000 → H' o = H o) → K (.tup [], H') = R) : @kB _ _ (il C4 70 [.ptr 60111 1 0 0] H) ⟨K⟩ = R := by
  have hW' := hW
  obtain ⟨W1, W2, W3, W4, W5, W6, W7⟩ := hW'
  have jl := h.md.jl
  have il := h.md.il
  obtain ⟨k1, k2⟩ := h.jk _ (List.getElem_mem hi)
  have row := jb_row n.jobs i hi
  have hrow := fun J => set_at n.jobs i J hi
  have ow := e128 n.me n.list (keyI n.jobs[i].key) (idB_lt _) h.me (Nat.le_trans h.md.ll (by decide)) h.li
  have e3 := enEq (ownerR n.me n.list (keyI n.jobs[i].key)) n.me
  have ge := e151 n.items n.jobs[i].key (by omega)
  have g1 := hF 100102 (by omega) (by omega); have g2 := hF 100103 (by omega) (by omega); have g3 := hF 100105 (by omega) (by omega); have g4 := hF 100106 (by omega) (by omega)
  have be := (c4_c2 109 (by decide) [] _).trans (eBegin { n with jobs := n.jobs.set i { n.jobs[i] with phase := 2 } } n.jobs[i].key n.jobs[i].val (decide (n.jobs[i].kind = 2)) enZ 0 id ((mid_setj i n.jobs[i] { n.jobs[i] with phase := 2 } h.md (List.getElem_mem hi) rfl).le (show 80000 ≤ 90000 by omega)) (Nat.le_trans k1 (by decide)) h.clock)
  try simp only at be
  unfold seekC at k
  rw [jobG_at hi] at k
  by_cases ho : ownerR n.me n.list (keyI n.jobs[i].key) = n.me
  · rw [if_pos ho] at k
    have ho' := eq_true ho
    by_cases k3 : n.jobs[i].kind = 3
    · rw [if_pos k3] at k
      have hs := il_settleC n id i hi hid (h.md.le (by omega)) (getR n.items n.jobs[i].key).1 ((getR n.items n.jobs[i].key).2 && !(getR n.items n.jobs[i].key).1.g) 0
      generalize hj : n.jobs[i] = j at *
      generalize getR n.items j.key = q at *
      obtain ⟨x, b⟩ := q
      cases b
      all_goals
        simp only [Bool.true_and, Bool.false_and] at hs k
        rw [il_text (C := C4) Tryz.func70 rfl Tryz.results70 (show (C4).M.loc 70 = _ from fq70.1) (by kernel_rfl)]
        simp -implicitDefEqProofs -dsimp +contextual (maxSteps := 9999999) (disch := first | omega | simp only [go_sem] <;> omega | refine ib ?_; kernel_rfl) only [go_sem, seval, ↓reduceIte, W1, W2, W3, W4, W5, W6, W7, hi, row, ePlace, ow, e3, ho', k3, ge, g1, g2]
        refine hs _ (hW.far ?_) ?_ _ _ fun H' hE hfr => ?_
        · intro o ho; repeat (first | rfl | rw [Heap.set_ne _ _ (by omega)])
        · intro o ho; repeat (first | exact hF o (by omega) (by omega) | rw [Heap.set_ne _ _ (by omega)])
        simp -implicitDefEqProofs -dsimp +contextual (maxSteps := 9999999) (disch := first | omega | simp only [go_sem] <;> omega | refine ib ?_; kernel_rfl) only [go_sem, seval, ↓reduceIte]
        exact k _ hE (fun o ho => (hfr o ho).trans (by repeat (first | rfl | rw [Heap.set_ne _ _ (by omega)])))
    · rw [if_neg k3] at k
      have bl := begin_len { n with jobs := n.jobs.set i { n.jobs[i] with phase := 2 } } n.jobs[i].key n.jobs[i].val (decide (n.jobs[i].kind = 2)) enZ 0 id
      have ll := h.md.ll
      subst hid
      have k3' := eq_false k3
      generalize beginR _ _ _ _ _ _ _ = q at *
      obtain ⟨d, acts⟩ := q
      try simp only at bl
      simp only [enZ, Int.cast_ofNat_Int] at be
      unfold ndRes at be
      rw [Nd.ocs_eq] at be
      generalize hj : n.jobs[i] = j at *
      rw [il_text (C := C4) Tryz.func70 rfl Tryz.results70 (show (C4).M.loc 70 = _ from fq70.1) (by kernel_rfl)]
      simp -implicitDefEqProofs -dsimp +contextual (maxSteps := 9999999) (disch := first | omega | simp only [go_sem] <;> omega | refine ib ?_; kernel_rfl) only [go_sem, seval, ↓reduceIte, W1, W2, W3, W4, W5, W6, W7, row, hi, ePlace, ow, e3, ho', k3', g1, g2, g3, g4, rowsG_start, hrow, List.set_set, be]
      exact k _ ⟨100148001015, 100148001016, 100148001018, 100148001022, _, _, _, _, _, _, _, by omega, by omega, by omega, by omega, rfl, rfl, rfl, rfl, rfl, .inr ⟨100159, _, rfl, by omega, by omega, rfl⟩⟩ (fun o ho => by repeat (first | rfl | rw [Heap.set_ne _ _ (by omega)]))
  · rw [if_neg ho] at k
    have ho' := eq_false ho
    have ha := il_askC n id i hi hid (h.md.le (by omega)) k1 (ownerR n.me n.list (keyI n.jobs[i].key))
    generalize hj : n.jobs[i] = j at *
    generalize ownerR n.me n.list (keyI j.key) = o at *
    rw [il_text (C := C4) Tryz.func70 rfl Tryz.results70 (show (C4).M.loc 70 = _ from fq70.1) (by kernel_rfl)]
    simp -implicitDefEqProofs -dsimp +contextual (maxSteps := 9999999) (disch := first | omega | simp only [go_sem] <;> omega | refine ib ?_; kernel_rfl) only [go_sem, seval, ↓reduceIte, W1, W2, W3, W4, W5, W6, W7, row, hi, ePlace, ow, e3, ho', g1]
    refine ha _ (hW.far ?_) ?_ ?_ _ _ fun H' hE hfr => ?_
    · intro o ho; repeat (first | rfl | rw [Heap.set_ne _ _ (by omega)])
    · intro o ho; repeat (first | exact hF o (by omega) (by omega) | rw [Heap.set_ne _ _ (by omega)])
    · intro o ho; repeat (first | exact hF o (by omega) (by omega) | rw [Heap.set_ne _ _ (by omega)])
    simp -implicitDefEqProofs -dsimp +contextual (maxSteps := 9999999) (disch := first | omega | simp only [go_sem] <;> omega | refine ib ?_; kernel_rfl) only [go_sem, seval, ↓reduceIte]
    exact k _ hE (fun o ho => (hfr o ho).trans (by repeat (first | rfl | rw [Heap.set_ne _ _ (by omega)])))
theorem cli_id {l : List Jb} {id : Int} {i : Nat} (hi : i < l.length) (hc : cliP l id = (i : Int)) : l[i].id = id := by
  rcases cliP_cases l id with ⟨i', hi', hid, _, _, hc'⟩ | ⟨hc', _⟩
  · obtain rfl : i' = i := by omega
    exact hid
  · omega
theorem eSeek (n : Nd) (id : Int) (h : CliK n) : fn C4 16 [] [(aNd n), .int .i64 id] = some (.tup [.agg (seekR n id).1.cs, .slice 20 ((seekR n id).2.map Ac.cs)], []) := by
  rw [fn_text (C := C4) Tryz.func16 rfl rfl Tryz.results16 (show (C4).M.loc 16 = _ from fq16.1) rfl rfl (by kernel_rfl)]
  simp -implicitDefEqProofs -dsimp +contextual (maxSteps := 9999999) (disch := first | omega | simp only [go_sem] <;> omega | refine ib ?_; kernel_rfl) only [go_sem, seval, ↓reduceIte]
  refine il_onC n id (h.md.le (by omega)) _ ?_ _ _ ?_ ?_
  · intro o ho; repeat (first | rfl | rw [Heap.set_ne _ _ (by omega)])
  · intro i H' hi hc W F hfr
    rw [seekR_at hc]
    have hid := cli_id hi hc
    simp -implicitDefEqProofs -dsimp +contextual (maxSteps := 9999999) (disch := first | omega | simp only [go_sem] <;> omega | refine ib ?_; kernel_rfl) only [go_sem, seval, ↓reduceIte]
    refine il_seekC n id i hi hid h _ W F _ _ fun H2 hE hfr2 => ?_
    obtain ⟨a, b, c, d, ga, gb, gc, gd, J, X, F', A1, A2, A3, A4, Y1, Y2, Y3, Y4, Y5, hX⟩ := hE
    have g4 : (H2 104).gen = 1 := by rw [hfr2 104 (by omega), hfr 104 (by omega)]; rfl
    have m4 : (H2 104).mode = .live := by rw [hfr2 104 (by omega), hfr 104 (by omega)]; rfl
    obtain ⟨r, hr, H4r⟩ : ∃ r : List AVal, r.length = 22 ∧ (H2 104).rows = [r] := by rw [hfr2 104 (by omega), hfr 104 (by omega)]; exact ⟨_, rfl, rfl⟩
    generalize seekC n i id = q at *
    obtain ⟨m, acts⟩ := q
    try simp only at Y1 Y2 Y3 Y4 Y5 hX
    have na : (a = 120102) = False := eq_false (by omega); have nb : (b = 120102) = False := eq_false (by omega); have nc : (c = 120102) = False := eq_false (by omega); have nd : (d = 120102) = False := eq_false (by omega)
    have na' : (a = 104) = False := eq_false (by omega); have nb' : (b = 104) = False := eq_false (by omega); have nc' : (c = 104) = False := eq_false (by omega); have nd' : (d = 104) = False := eq_false (by omega)
    rcases hX with ⟨rfl, rfl⟩ | ⟨x, gx, rfl, hx1, hx2, hX⟩
    · simp -implicitDefEqProofs -dsimp +contextual (maxSteps := 9999999) (disch := first | omega | simp only [go_sem] <;> omega | refine ib ?_; kernel_rfl) only [go_sem, seval, ↓reduceIte]
      rw [il_text (C := C4) Tryz.func71 rfl Tryz.results71 (show (C4).M.loc 71 = _ from fq71.1) (by kernel_rfl)]
      simp -implicitDefEqProofs -dsimp +contextual (maxSteps := 9999999) (disch := first | omega | simp only [go_sem] <;> omega | refine ib ?_; kernel_rfl) only [go_sem, seval, ↓reduceIte, Y1, Y2, Y3, Y4, Y5, g4, m4, hr, H4r, na, nb, nc, nd, na', nb', nc', nd']
    · have nx : (x = 120102) = False := eq_false (by omega); have nx' : (x = 104) = False := eq_false (by omega)
      simp -implicitDefEqProofs -dsimp +contextual (maxSteps := 9999999) (disch := first | omega | simp only [go_sem] <;> omega | refine ib ?_; kernel_rfl) only [go_sem, seval, ↓reduceIte]
      rw [il_text (C := C4) Tryz.func71 rfl Tryz.results71 (show (C4).M.loc 71 = _ from fq71.1) (by kernel_rfl)]
      simp -implicitDefEqProofs -dsimp +contextual (maxSteps := 9999999) (disch := first | omega | simp only [go_sem] <;> omega | refine ib ?_; kernel_rfl) only [go_sem, seval, ↓reduceIte, Y1, Y2, Y3, Y4, Y5, g4, m4, hr, H4r, na, nb, nc, nd, na', nb', nc', nd', nx, nx', hX]
  · intro H' hc W F hfr
    rw [seekR_none hc]
    obtain ⟨Y1, W2, W3, Y2, Y3, Y4, Y5⟩ := W
    have f1 := F 120102 (by omega) (by omega)
    have g4 : (H' 104).gen = 1 := by rw [hfr 104 (by omega)]; rfl
    have m4 : (H' 104).mode = .live := by rw [hfr 104 (by omega)]; rfl
    obtain ⟨r, hr, H4r⟩ : ∃ r : List AVal, r.length = 22 ∧ (H' 104).rows = [r] := by rw [hfr 104 (by omega)]; exact ⟨_, rfl, rfl⟩
    simp -implicitDefEqProofs -dsimp +contextual (maxSteps := 9999999) (disch := first | omega | simp only [go_sem] <;> omega | refine ib ?_; kernel_rfl) only [go_sem, seval, ↓reduceIte]
    rw [il_text (C := C4) Tryz.func71 rfl Tryz.results71 (show (C4).M.loc 71 = _ from fq71.1) (by kernel_rfl)]
    simp -implicitDefEqProofs -dsimp +contextual (maxSteps := 9999999) (disch := first | omega | simp only [go_sem] <;> omega | refine ib ?_; kernel_rfl) only [go_sem, seval, ↓reduceIte, Y1, Y2, Y3, Y4, Y5, g4, m4, hr, H4r]
theorem eIdxMine (l : List Jb) (hl : l.length ≤ 9223372036854775807) : fn C 84 [] [.slice 29 (l.map Jb.cs), .fn (.func 63) [] []] = some (.int .i64 (placeG mineJ l), []) := by
  rw [fn_text Tryz.func84 rfl rfl Tryz.results84 fq84.1 rfl rfl (by kernel_rfl)]
  simp -implicitDefEqProofs -dsimp +contextual (maxSteps := 9999999) (disch := first | omega | simp only [go_sem] <;> omega | refine ib ?_; kernel_rfl) only [go_sem, seval, ↓reduceIte]
  refine kFor l.length (fun i f H => f 0 = .slice 29 (l.map Jb.cs) ∧ f 1 = .fn (.func 63) [] [] ∧ f 7 = .int .i64 l.length ∧ f 8 = .int .i64 (i : Nat) ∧ H = Heap.nil ∧ (l.take i).any mineJ = false) ?_ ?_ (by exact ⟨rfl, rfl, rfl, rfl, rfl, rfl⟩)
  · rintro i f _ hi ⟨f0, f1, f7, f8, rfl, ha⟩ ih
    have row := jb_row l i hi
    have e1 := e63 l[i]
    cases h : mineJ l[i] with
    | true =>
      rw [h] at e1
      simp -implicitDefEqProofs -dsimp +contextual (maxSteps := 9999999) (disch := first | omega | simp only [go_sem] <;> omega | refine ib ?_; kernel_rfl) only [go_sem, seval, ↓reduceIte, f0, f1, f7, f8, hi, row, e1]
      rw [placeG_at hi ha h]
    | false =>
      rw [h] at e1
      simp -implicitDefEqProofs -dsimp +contextual (maxSteps := 9999999) (disch := first | omega | simp only [go_sem] <;> omega | refine ib ?_; kernel_rfl) only [go_sem, seval, ↓reduceIte, f0, f1, f7, f8, hi, row, e1]
      exact ih _ _ ⟨f0, f1, f7, rfl, rfl, any_take hi ha h⟩
  · rintro f _ ⟨f0, f1, f7, f8, rfl, ha⟩
    simp -implicitDefEqProofs -dsimp +contextual (maxSteps := 9999999) (disch := first | omega | simp only [go_sem] <;> omega | refine ib ?_; kernel_rfl) only [go_sem, seval, ↓reduceIte, f0, f1, f7, f8]
    rw [placeG_none (any_end ha)]
theorem eHasMine (l : List Jb) (hl : l.length ≤ 9223372036854775807) : fn C 66 [] [.slice 29 (l.map Jb.cs), .fn (.func 63) [] []] = some (.bool (l.any mineJ), []) := by
  rw [fn_text Tryz.func66 rfl rfl Tryz.results66 fq66.1 rfl rfl (by kernel_rfl)]
  have e1 := eIdxMine l hl
  rcases placeG_cases mineJ l with ⟨j, hj, hq, hn, hp⟩ | ⟨hn, hp⟩
  · rw [hp] at e1
    have ha : l.any mineJ = true := List.any_eq_true.2 ⟨_, List.getElem_mem hj, hq⟩
    rw [ha]
    simp -implicitDefEqProofs -dsimp +contextual (maxSteps := 9999999) (disch := first | omega | simp only [go_sem] <;> omega | refine ib ?_; kernel_rfl) only [go_sem, seval, ↓reduceIte, e1, Nat.not_lt_zero]
  · rw [hp] at e1
    rw [hn]
    simp -implicitDefEqProofs -dsimp +contextual (maxSteps := 9999999) (disch := first | omega | simp only [go_sem] <;> omega | refine ib ?_; kernel_rfl) only [go_sem, seval, ↓reduceIte, e1]
theorem clik_add {n : Nd} (kind : Int) (key val : List UInt8) (h : CliK n) (hm : n.mid 70000) (hk : key.length ≤ 10000) (hv : val.length ≤ 10000) : CliK (addC n kind key val) := by
  have m := hm.le (show 70000 ≤ 80000 by omega)
  refine ⟨⟨m.pl, m.ll, m.fl, m.sl, m.dl, m.il, ?_, m.wl, m.rl, m.pe, m.pi, fun j hj => ?_, m.ik⟩, h.me, h.li, h.clock, fun j hj => ?_, fun j hj => ?_⟩
  · have := hm.jl
    show (n.jobs ++ [_]).length ≤ 80000
    simp; omega
  · rcases List.mem_append.1 hj with hj | hj
    · exact m.ja j hj
    · rw [List.mem_singleton] at hj; rw [hj]; exact Nat.zero_le _
  · rcases List.mem_append.1 hj with hj | hj
    · exact h.jk j hj
    · rw [List.mem_singleton] at hj
      rw [hj]
      refine ⟨hk, ?_⟩
      show (if kind = 1 then val else []).length ≤ 10000
      split
      · exact hv
      · exact Nat.zero_le _
  · rcases List.mem_append.1 hj with hj | hj
    · exact h.ji j hj
    · rw [List.mem_singleton] at hj
      rw [hj]
      exact ⟨by show (-9223372036854775808 : Int) ≤ 0; decide, by show (-9223372036854775808 : Int) ≤ 0; decide⟩
def tripB (q : Nd × List Ac) (e : Int) : Option Res := some (.tup [.agg q.1.cs, .slice 20 (q.2.map Ac.cs), .int .i64 e], [])
theorem eBegin31 (n : Nd) (kind : Int) (key val : List UInt8) (h : CliK n) (hm : n.mid 70000) (hk : key.length ≤ 10000) (hv : val.length ≤ 10000) (hj : -9223372036854775808 ≤ n.jobId) : fn C4 14 [] [(aNd n), .int .i64 kind, .str key, .str val] = tripB (begC n kind key val) (begE n kind key val) := by
  have jl := h.md.jl
  have cp := e13 n (h.md.le (by omega))
  have ky := e64 key (by omega)
  have vl := e65 val
  have hc := h.clock
  have mi := e63 { jbZ with kind := kind, key := key, til := n.clock + 480 }
  have hb := eHasMine n.jobs (by omega)
  simp only [aNd, jbZ, enZ, zeroIt, List.map_nil, Int.cast_ofNat_Int] at mi
  have mk : mineJ ⟨0, kind, 0, 0, 0, n.clock + 480, key, [], ⟨[], 0, 0, 0, 0, []⟩, ⟨[], [], 0, false⟩, 0, 0, [], ⟨[], 0, 0, 0, 0, []⟩, 0, 0⟩ = (decide (kind = 1) || decide (kind = 2) || decide (kind = 3)) := rfl
  rw [mk] at mi
  by_cases hb1 : kind < 1 ∨ 3 < kind ∨ keyR key = false ∨ 32 < val.length
  · have e : begE n kind key val = 2 := by unfold begE; rw [if_pos hb1]
    rw [begC, e, if_neg (by decide)]
    unfold tripB
    by_cases hkd : 1 ≤ kind ∧ kind ≤ 3
    · have m1 : (decide (kind = 1) || decide (kind = 2) || decide (kind = 3)) = true := by simp; omega
      rw [m1] at mi
      cases hkk : keyR key with
      | false =>
        rw [hkk] at ky
        rw [fn_textN (C := C4) Tryz.func14 rfl rfl Tryz.results14 (show (C4).M.loc 14 = _ from fq14.1) rfl rfl (by kernel_rfl)]
        simp -implicitDefEqProofs -dsimp +contextual (maxSteps := 9999999) (disch := first | omega | simp only [go_sem] <;> omega | refine ib ?_; kernel_rfl) only [go_sem, seval, ↓reduceIte, mi, ky, cp]
      | true =>
        rw [hkk] at ky
        have hvv : ¬ val.length ≤ 32 := by
          rcases hb1 with hb1 | hb1 | hb1 | hb1
          · omega
          · omega
          · rw [hkk] at hb1; cases hb1
          · omega
        rw [decide_eq_false hvv] at vl
        rw [fn_textN (C := C4) Tryz.func14 rfl rfl Tryz.results14 (show (C4).M.loc 14 = _ from fq14.1) rfl rfl (by kernel_rfl)]
        simp -implicitDefEqProofs -dsimp +contextual (maxSteps := 9999999) (disch := first | omega | simp only [go_sem] <;> omega | refine ib ?_; kernel_rfl) only [go_sem, seval, ↓reduceIte, mi, ky, vl, cp]
    · have m1 : (decide (kind = 1) || decide (kind = 2) || decide (kind = 3)) = false := by simp; omega
      rw [m1] at mi
      rw [fn_textN (C := C4) Tryz.func14 rfl rfl Tryz.results14 (show (C4).M.loc 14 = _ from fq14.1) rfl rfl (by kernel_rfl)]
      simp -implicitDefEqProofs -dsimp +contextual (maxSteps := 9999999) (disch := first | omega | simp only [go_sem] <;> omega | refine ib ?_; kernel_rfl) only [go_sem, seval, ↓reduceIte, mi, cp]
  · have m1 : (decide (kind = 1) || decide (kind = 2) || decide (kind = 3)) = true := by simp; omega
    rw [m1] at mi
    have hkk : keyR key = true := by
      cases hq : keyR key with
      | true => rfl
      | false => exact absurd (.inr (.inr (.inl hq))) hb1
    rw [hkk] at ky
    rw [decide_eq_true (show val.length ≤ 32 by omega)] at vl
    by_cases hb2 : n.ready = false ∨ 8 ≤ n.jobs.length ∨ n.jobs.any mineJ = true
    · have e : begE n kind key val = 41 := by unfold begE; rw [if_neg hb1, if_pos hb2]
      rw [begC, e, if_neg (by decide)]
      unfold tripB
      cases hr : n.ready with
      | false =>
        simp only [aNd] at cp
        rw [hr] at cp
        rw [fn_textN (C := C4) Tryz.func14 rfl rfl Tryz.results14 (show (C4).M.loc 14 = _ from fq14.1) rfl rfl (by kernel_rfl)]
        simp -implicitDefEqProofs -dsimp +contextual (maxSteps := 9999999) (disch := first | omega | simp only [go_sem] <;> omega | refine ib ?_; kernel_rfl) only [go_sem, seval, ↓reduceIte, mi, ky, vl, cp, hr]
      | true =>
        simp only [aNd] at cp
        rw [hr] at cp
        by_cases h8 : 8 ≤ n.jobs.length
        · have h8' := eq_true h8
          rw [fn_textN (C := C4) Tryz.func14 rfl rfl Tryz.results14 (show (C4).M.loc 14 = _ from fq14.1) rfl rfl (by kernel_rfl)]
          simp -implicitDefEqProofs -dsimp +contextual (maxSteps := 9999999) (disch := first | omega | simp only [go_sem] <;> omega | refine ib ?_; kernel_rfl) only [go_sem, seval, ↓reduceIte, mi, ky, vl, cp, hr, h8']
        · have h8' := eq_false h8
          have ha : n.jobs.any mineJ = true := by
            rcases hb2 with hb2 | hb2 | hb2
            · rw [hr] at hb2; cases hb2
            · omega
            · exact hb2
          rw [ha] at hb
          rw [fn_textN (C := C4) Tryz.func14 rfl rfl Tryz.results14 (show (C4).M.loc 14 = _ from fq14.1) rfl rfl (by kernel_rfl)]
          simp -implicitDefEqProofs -dsimp +contextual (maxSteps := 9999999) (disch := first | omega | simp only [go_sem] <;> omega | refine ib ?_; kernel_rfl) only [go_sem, seval, ↓reduceIte, mi, ky, vl, cp, hr, h8', hb]
    · have e : begE n kind key val = 0 := by unfold begE; rw [if_neg hb1, if_neg hb2]
      rw [begC, e, if_pos rfl]
      unfold tripB
      have hr : n.ready = true := by
        cases hq : n.ready with
        | true => rfl
        | false => exact absurd (.inl hq) hb2
      have h8 : ¬ 8 ≤ n.jobs.length := fun h' => hb2 (.inr (.inl h'))
      have h8' := eq_false h8
      have ha : n.jobs.any mineJ = false := Bool.eq_false_iff.2 fun h' => hb2 (.inr (.inr h'))
      rw [ha] at hb
      have sk := eSeek (addC n kind key val) (nextI n.jobId) (clik_add kind key val h hm hk hv)
      generalize seekR (addC n kind key val) (nextI n.jobId) = q at *
      obtain ⟨d, acts⟩ := q
      simp only [aNd] at sk
      rw [Nd.cs] at sk
      unfold addC newC at sk
      simp only [aNd, jbZ, enZ, zeroIt, List.map_nil, Int.cast_ofNat_Int, List.map_append, List.map_cons, Jb.cs] at sk
      simp only [aNd] at cp
      rw [hr] at sk cp
      clear hb1 hb2 e m1 mk h8
      have n1 : ∀ _ : n.jobId < 0, nextI n.jobId = 1 := fun h' => by unfold nextI; rw [if_pos (.inl h')]
      by_cases g1 : n.jobId < 0
      · rw [n1 g1] at sk
        by_cases k1 : kind = 1
        · rw [k1] at sk mi ⊢
          simp only [aNd, eq_self, if_true] at sk
          rw [fn_textN (C := C4) Tryz.func14 rfl rfl Tryz.results14 (show (C4).M.loc 14 = _ from fq14.1) rfl rfl (by kernel_rfl)]
          simp -implicitDefEqProofs -dsimp +contextual (maxSteps := 9999999) (disch := first | omega | simp only [go_sem] <;> omega | refine ib ?_; kernel_rfl) only [go_sem, seval, ↓reduceIte, mi, ky, vl, cp, hr, h8', hb, g1, sk]
        · have k1' := eq_false k1
          simp only [aNd, k1', if_false] at sk
          rw [fn_textN (C := C4) Tryz.func14 rfl rfl Tryz.results14 (show (C4).M.loc 14 = _ from fq14.1) rfl rfl (by kernel_rfl)]
          simp -implicitDefEqProofs -dsimp +contextual (maxSteps := 9999999) (disch := first | omega | simp only [go_sem] <;> omega | refine ib ?_; kernel_rfl) only [go_sem, seval, ↓reduceIte, mi, ky, vl, cp, hr, h8', hb, g1, sk, k1']
      · by_cases g2 : 1073741824 ≤ n.jobId
        · have n2 : nextI n.jobId = 1 := by unfold nextI; rw [if_pos (.inr g2)]
          rw [n2] at sk
          by_cases k1 : kind = 1
          · rw [k1] at sk mi ⊢
            simp only [aNd, eq_self, if_true] at sk
            rw [fn_textN (C := C4) Tryz.func14 rfl rfl Tryz.results14 (show (C4).M.loc 14 = _ from fq14.1) rfl rfl (by kernel_rfl)]
            simp -implicitDefEqProofs -dsimp +contextual (maxSteps := 9999999) (disch := first | omega | simp only [go_sem] <;> omega | refine ib ?_; kernel_rfl) only [go_sem, seval, ↓reduceIte, mi, ky, vl, cp, hr, h8', hb, g1, g2, sk]
          · have k1' := eq_false k1
            simp only [aNd, k1', if_false] at sk
            rw [fn_textN (C := C4) Tryz.func14 rfl rfl Tryz.results14 (show (C4).M.loc 14 = _ from fq14.1) rfl rfl (by kernel_rfl)]
            simp -implicitDefEqProofs -dsimp +contextual (maxSteps := 9999999) (disch := first | omega | simp only [go_sem] <;> omega | refine ib ?_; kernel_rfl) only [go_sem, seval, ↓reduceIte, mi, ky, vl, cp, hr, h8', hb, g1, g2, sk, k1']
        · have n3 : nextI n.jobId = n.jobId + 1 := by unfold nextI; rw [if_neg (by omega)]
          rw [n3] at sk
          by_cases k1 : kind = 1
          · rw [k1] at sk mi ⊢
            simp only [aNd, eq_self, if_true] at sk
            rw [fn_textN (C := C4) Tryz.func14 rfl rfl Tryz.results14 (show (C4).M.loc 14 = _ from fq14.1) rfl rfl (by kernel_rfl)]
            simp -implicitDefEqProofs -dsimp +contextual (maxSteps := 9999999) (disch := first | omega | simp only [go_sem] <;> omega | refine ib ?_; kernel_rfl) only [go_sem, seval, ↓reduceIte, mi, ky, vl, cp, hr, h8', hb, g1, g2, sk]
          · have k1' := eq_false k1
            simp only [aNd, k1', if_false] at sk
            rw [fn_textN (C := C4) Tryz.func14 rfl rfl Tryz.results14 (show (C4).M.loc 14 = _ from fq14.1) rfl rfl (by kernel_rfl)]
            simp -implicitDefEqProofs -dsimp +contextual (maxSteps := 9999999) (disch := first | omega | simp only [go_sem] <;> omega | refine ib ?_; kernel_rfl) only [go_sem, seval, ↓reduceIte, mi, ky, vl, cp, hr, h8', hb, g1, g2, sk, k1']
end Go.Proofs.YtnpkhdjgedeppaaGreatDoor
namespace Go.Proofs.YtnpkhdjgedeppaaGreatDoor
set_option maxHeartbeats 64000000
open Go.Am
set_option linter.unusedSimpArgs false
set_option linter.unusedVariables false
set_option maxRecDepth 100000
def AccE (f : Nat → AVal) (H : Heap) (t o st : Nat) (r : List (List AVal)) : Prop := ∃ g, f t = .osl o g 0 r.length ∧ H o = ⟨g, .live, st, r, false⟩
theorem map_take_succ {α β : Type} (f : α → β) (l : List α) (i : Nat) (h : i < l.length) : (l.take (i + 1)).map f = (l.take i).map f ++ [f l[i]] := by
  rw [List.take_succ_eq_append_getElem h, List.map_append]; rfl
def entR (p : Pr) : List AVal := p.e.cs
theorem entR_map (l : List Pr) : l.map entR = (l.map Pr.e).map En.cs := by rw [List.map_map]; rfl
@[go_sem] theorem e121 (l : List Pr) (hl : l.length ≤ 1000000) : fn C 121 [] [.slice 8 (l.map Pr.cs)] = some (.slice 6 ((l.map Pr.e).map En.cs), []) := by
  rw [fn_textN Tryz.func121 rfl rfl Tryz.results121 fq121.1 rfl rfl (by kernel_rfl)]
  simp -implicitDefEqProofs -dsimp +contextual (maxSteps := 9999999) (disch := first | omega | simp only [go_sem] <;> omega | refine ib ?_; kernel_rfl) only [go_sem, seval, ↓reduceIte]
  refine kFor l.length (fun i f H => f 0 = .slice 8 (l.map Pr.cs) ∧ f 4 = .int .i64 (i : Nat) ∧ AccE f H 3 103 6 ((l.take i).map entR)) ?_ ?_ (by exact ⟨rfl, rfl, ⟨_, rfl, rfl⟩⟩)
  · rintro i f H hi ⟨f0, f4, g, f3, hA⟩ ih
    have hm := map_take_succ entR l i hi
    have row := pr_row l i hi
    have hn : ((l.take i).map entR).length ≤ 1000000 := by simp; omega
    generalize (l.take i).map entR = r at *
    simp -implicitDefEqProofs -dsimp +contextual (maxSteps := 9999999) (disch := first | omega | simp only [go_sem] <;> omega | refine ib ?_; kernel_rfl) only [go_sem, seval, ↓reduceIte, f0, f4, f3, hA, hi, row]
    exact ih _ _ ⟨f0, rfl, by rw [hm]; exact ⟨_, by rw [List.length_append]; rfl, rfl⟩⟩
  · rintro f H ⟨f0, f4, g, f3, hA⟩
    rw [List.take_length, entR_map] at f3 hA
    simp -implicitDefEqProofs -dsimp +contextual (maxSteps := 9999999) (disch := first | omega | simp only [go_sem] <;> omega | refine ib ?_; kernel_rfl) only [go_sem, seval, ↓reduceIte, f0, f4, f3, hA]
end Go.Proofs.YtnpkhdjgedeppaaGreatDoor
namespace Go.Proofs.YtnpkhdjgedeppaaGreatDoor
set_option maxHeartbeats 64000000
open Go.Am
set_option linter.unusedSimpArgs false
set_option linter.unusedVariables false
set_option maxRecDepth 100000
attribute [local irreducible] distR
theorem en_row (l : List En) (i : Nat) (h : i < l.length) : (l.map En.cs)[i]? = some [.str l[i].name, .int .u64 (l[i].id : Int), .int .i64 l[i].fr, .int .i64 l[i].un, .int .i64 l[i].ix, .str l[i].tag] := by
  rw [List.getElem?_map, List.getElem?_eq_getElem h]; rfl
@[go_sem] theorem e113 (me : En) (l : List Pr) (key : Nat) (hk : key ≤ 18446744073709551615) (hm : me.id ≤ 18446744073709551615) (hl : l.length ≤ 1000000) (hp : ∀ p ∈ l, p.e.id ≤ 18446744073709551615) : fn C 113 [] [.agg [.str me.name, .int .u64 (me.id : Int), .int .i64 me.fr, .int .i64 me.un, .int .i64 me.ix, .str me.tag], .slice 8 (l.map Pr.cs), .int .u64 (key : Int)] = some (.agg [.str (ownerR me l key).name, .int .u64 ((ownerR me l key).id : Int), .int .i64 (ownerR me l key).fr, .int .i64 (ownerR me l key).un, .int .i64 (ownerR me l key).ix, .str (ownerR me l key).tag], []) := by
  rw [fn_text Tryz.func113 rfl rfl Tryz.results113 fq113.1 rfl rfl (by kernel_rfl)]
  rw [ownerR_eq]
  simp -implicitDefEqProofs -dsimp +contextual (maxSteps := 9999999) (disch := first | omega | simp only [go_sem] <;> omega | refine ib ?_; kernel_rfl) only [go_sem, seval, ↓reduceIte]
  obtain ⟨all, hall⟩ : ∃ all : List En, all = me :: l.map Pr.e := ⟨_, rfl⟩
  have hrows : [.str me.name, .int .u64 (me.id : Int), .int .i64 me.fr, .int .i64 me.un, .int .i64 me.ix, .str me.tag] :: (l.map Pr.e).map En.cs = all.map En.cs := by rw [hall]; rfl
  have hn : all.length = l.length + 1 := by simp [hall]
  have hid : ∀ e ∈ all, e.id ≤ 18446744073709551615 := by
    intro e he
    rw [hall] at he
    rcases List.mem_cons.1 he with rfl | he
    · exact hm
    · obtain ⟨p, hp', rfl⟩ := List.mem_map.1 he
      exact hp p hp'
  have hat : ∀ (i : Nat) (h : i + 1 < all.length), all[i + 1] = (l[i]'(by omega)).e := by
    intro i h; subst hall; simp
  have h0 : all[0]'(by omega) = me := by subst hall; rfl
  rw [hrows]
  refine kFor all.length (fun i f H => f 2 = .int .u64 (key : Int) ∧ f 6 = .ptr 106 1 0 0 ∧ f 7 = .osl 111 2 0 all.length ∧ f 9 = .int .i64 (i : Nat) ∧ H 111 = ⟨2, .live, 6, all.map En.cs, false⟩ ∧ (H 106).gen = 1 ∧ (H 106).mode = .live ∧ (∃ r : List AVal, r.length = 6 ∧ (H 106).rows = [r]) ∧ ∃ (j : Nat) (hj : j < all.length), f 8 = .int .i64 (j : Nat) ∧ all[j] = (l.take (i - 1)).foldl (bestS key) me) ?_ ?_ ?_
  · rintro i f H hi ⟨f2, f6, f7, f9, hH, H6g, H6m, H6, j, hj, f8, hb⟩ ih
    have ri := en_row all i hi
    have rj := en_row all j hj
    have i1 := hid _ (List.getElem_mem hi)
    have i2 := hid _ (List.getElem_mem hj)
    have next : (if distR key all[i].id < distR key all[j].id then all[i] else all[j]) = (l.take (i + 1 - 1)).foldl (bestS key) me := by
      cases i with
      | zero =>
        rw [h0, hb]
        simp
      | succ i =>
        have := hat i hi
        rw [Nat.add_sub_cancel, best_succ me l key i (by omega), hb, Nat.add_sub_cancel, this]
        rfl
    simp -implicitDefEqProofs -dsimp +contextual (maxSteps := 9999999) (disch := first | omega | simp only [go_sem] <;> omega | refine ib ?_; kernel_rfl) only [go_sem, seval, ↓reduceIte, f2, f6, f7, f8, f9, hH, hi, hj, ri, rj, i1, i2]
    (repeat' (refine kD_intro (fun _ => ?_) (fun _ => ?_)))
    · rename_i hd
      rw [if_pos hd] at next
      exact ih _ _ ⟨f2, f6, f7, rfl, hH, H6g, H6m, H6, i, hi, rfl, next⟩
    · rename_i hd
      rw [if_neg hd] at next
      exact ih _ _ ⟨f2, f6, f7, rfl, hH, H6g, H6m, H6, j, hj, f8, next⟩
  · rintro f H ⟨f2, f6, f7, f9, hH, H6g, H6m, ⟨r, hr, H6⟩, j, hj, f8, hb⟩
    have rj := en_row all j hj
    rw [hn, Nat.add_sub_cancel, List.take_length] at hb
    rw [hb] at rj
    simp -implicitDefEqProofs -dsimp +contextual (maxSteps := 9999999) (disch := first | omega | simp only [go_sem] <;> omega | refine ib ?_; kernel_rfl) only [go_sem, seval, ↓reduceIte, f2, f6, f7, f8, f9, hH, hj, rj, H6g, H6m, H6, hr]
  · refine ⟨rfl, rfl, ?_, rfl, rfl, rfl, rfl, ⟨_, rfl, rfl⟩, 0, by omega, rfl, ?_⟩
    · rw [hn]; first | rfl | (rw [Nat.add_comm]; rfl)
    · simpa using h0
end Go.Proofs.YtnpkhdjgedeppaaGreatDoor
namespace Go.Proofs.YtnpkhdjgedeppaaGreatDoor
set_option maxHeartbeats 64000000
open Go.Am
set_option linter.unusedSimpArgs false
set_option linter.unusedVariables false
set_option maxRecDepth 100000
end Go.Proofs.YtnpkhdjgedeppaaGreatDoor
namespace Go.Proofs.YtnpkhdjgedeppaaGreatDoor
set_option maxHeartbeats 64000000
open Go.Am
set_option linter.unusedSimpArgs false
set_option linter.unusedVariables false
set_option maxRecDepth 100000
attribute [local irreducible] distR idB sumB
@[go_sem] theorem e68 (j : Jb) : fn C 68 [] [.agg [.int .i64 j.id, .int .i64 j.kind, .int .i64 j.phase, .int .i64 j.hops, .int .i64 j.tries, .int .i64 j.til, .str j.key, .str j.val, .str j.owner.name, .int .u64 (j.owner.id : Int), .int .i64 j.owner.fr, .int .i64 j.owner.un, .int .i64 j.owner.ix, .str j.owner.tag, .str j.item.k, .str j.item.v, .int .i64 j.item.n, .bool j.item.g, .int .i64 j.acks, .int .i64 j.waits, .slice 1 (j.asked.map strRow), .str j.back.name, .int .u64 (j.back.id : Int), .int .i64 j.back.fr, .int .i64 j.back.un, .int .i64 j.back.ix, .str j.back.tag, .int .i64 j.backRid, .int .i64 j.backJob]] = some (.bool (mineJ j), []) := by
  rw [fn_text Tryz.func68 rfl rfl Tryz.results68 fq68.1 rfl rfl (by kernel_rfl)]
  simp -implicitDefEqProofs -dsimp +contextual (maxSteps := 9999999) (disch := first | omega | simp only [go_sem] <;> omega | refine ib ?_; kernel_rfl) only [go_sem, seval, ↓reduceIte]
  (repeat' (refine kD_intro (fun _ => ?_) (fun _ => ?_))) <;> exact Res_bool (by rw [mineJ_iff]; first | (constructor <;> intro h' <;> first | omega | cases h') | (simp; omega))
theorem rPlace (n : Nd) (id : Int) (h : n.jobs.length ≤ 1000000) : fn C 72 [] [(aNd n), .int .i64 id] = some (.int .i64 (cliP n.jobs id), []) := by
  rcases cliP_cases n.jobs id with ⟨i, hi, hid, hm, hf, hc⟩ | ⟨hc, hf | ⟨i, hi, hf, hm⟩⟩
  · rw [hc]
    have row := jb_row n.jobs i hi
    have cl := e68 n.jobs[i]
    rw [hm] at cl
    rw [fn_text Tryz.func72 rfl rfl Tryz.results72 fq72.1 rfl rfl (by kernel_rfl)]
    simp -implicitDefEqProofs -dsimp +contextual (maxSteps := 9999999) (disch := first | omega | simp only [go_sem] <;> omega | refine ib ?_; kernel_rfl) only [go_sem, seval, ↓reduceIte, hf, row, cl, Nat.not_lt_zero]
  · rw [hc]
    rw [fn_text Tryz.func72 rfl rfl Tryz.results72 fq72.1 rfl rfl (by kernel_rfl)]
    simp -implicitDefEqProofs -dsimp +contextual (maxSteps := 9999999) (disch := first | omega | simp only [go_sem] <;> omega | refine ib ?_; kernel_rfl) only [go_sem, seval, ↓reduceIte, hf]
  · rw [hc]
    have row := jb_row n.jobs i hi
    have cl := e68 n.jobs[i]
    rw [hm] at cl
    rw [fn_text Tryz.func72 rfl rfl Tryz.results72 fq72.1 rfl rfl (by kernel_rfl)]
    simp -implicitDefEqProofs -dsimp +contextual (maxSteps := 9999999) (disch := first | omega | simp only [go_sem] <;> omega | refine ib ?_; kernel_rfl) only [go_sem, seval, ↓reduceIte, hf, row, cl, Nat.not_lt_zero]
theorem rSetC (n : Nd) (i : Nat) (j : Jb) (hi : i < n.jobs.length) (h : n.mid 1000000) : fn C 99 [] [(aNd n), .int .i64 (i : Nat), .agg [.int .i64 j.id, .int .i64 j.kind, .int .i64 j.phase, .int .i64 j.hops, .int .i64 j.tries, .int .i64 j.til, .str j.key, .str j.val, .str j.owner.name, .int .u64 (j.owner.id : Int), .int .i64 j.owner.fr, .int .i64 j.owner.un, .int .i64 j.owner.ix, .str j.owner.tag, .str j.item.k, .str j.item.v, .int .i64 j.item.n, .bool j.item.g, .int .i64 j.acks, .int .i64 j.waits, .slice 1 (j.asked.map strRow), .str j.back.name, .int .u64 (j.back.id : Int), .int .i64 j.back.fr, .int .i64 j.back.un, .int .i64 j.back.ix, .str j.back.tag, .int .i64 j.backRid, .int .i64 j.backJob]] = some (.agg ({ n with jobs := n.jobs.set i j } : Nd).cs, []) := by
  have jl := h.jl
  have st : (n.jobs.map Jb.cs).set i [.int .i64 j.id, .int .i64 j.kind, .int .i64 j.phase, .int .i64 j.hops, .int .i64 j.tries, .int .i64 j.til, .str j.key, .str j.val, .str j.owner.name, .int .u64 (j.owner.id : Int), .int .i64 j.owner.fr, .int .i64 j.owner.un, .int .i64 j.owner.ix, .str j.owner.tag, .str j.item.k, .str j.item.v, .int .i64 j.item.n, .bool j.item.g, .int .i64 j.acks, .int .i64 j.waits, .slice 1 (j.asked.map strRow), .str j.back.name, .int .u64 (j.back.id : Int), .int .i64 j.back.fr, .int .i64 j.back.un, .int .i64 j.back.ix, .str j.back.tag, .int .i64 j.backRid, .int .i64 j.backJob] = (n.jobs.set i j).map Jb.cs := by rw [List.map_set]; rfl
  rw [fn_text Tryz.func99 rfl rfl Tryz.results99 fq99.1 rfl rfl (by kernel_rfl)]
  simp -implicitDefEqProofs -dsimp +contextual (maxSteps := 9999999) (disch := first | omega | simp only [go_sem] <;> omega | refine ib ?_; kernel_rfl) only [go_sem, seval, ↓reduceIte, hi, st]
theorem rAsk (n : Nd) (i : Nat) (j : Jb) (to : En) (hi : i < n.jobs.length) (hk : j.key.length ≤ 10000) (h : n.mid 1000000) : fn C 102 [] [(aNd n), .int .i64 (i : Nat), .agg [.int .i64 j.id, .int .i64 j.kind, .int .i64 j.phase, .int .i64 j.hops, .int .i64 j.tries, .int .i64 j.til, .str j.key, .str j.val, .str j.owner.name, .int .u64 (j.owner.id : Int), .int .i64 j.owner.fr, .int .i64 j.owner.un, .int .i64 j.owner.ix, .str j.owner.tag, .str j.item.k, .str j.item.v, .int .i64 j.item.n, .bool j.item.g, .int .i64 j.acks, .int .i64 j.waits, .slice 1 (j.asked.map strRow), .str j.back.name, .int .u64 (j.back.id : Int), .int .i64 j.back.fr, .int .i64 j.back.un, .int .i64 j.back.ix, .str j.back.tag, .int .i64 j.backRid, .int .i64 j.backJob], .agg [.str to.name, .int .u64 (to.id : Int), .int .i64 to.fr, .int .i64 to.un, .int .i64 to.ix, .str to.tag]] = some (pairC (askC n i j to j.id), []) := by
  have e1 := e96 j.key hk
  have e2 := rSetC n i { j with phase := 1, owner := to } hi h
  try simp only at e2
  unfold askC findM keyI
  generalize idB (keyS ++ j.key) = d at *
  rw [fn_textN Tryz.func102 rfl rfl Tryz.results102 fq102.1 rfl rfl (by kernel_rfl)]
  simp -implicitDefEqProofs -dsimp +contextual (maxSteps := 9999999) (disch := first | omega | simp only [go_sem] <;> omega | refine ib ?_; kernel_rfl) only [go_sem, seval, ↓reduceIte, e1, e2, msZ]
structure CliOk (n : Nd) : Prop where
  k : CliK n
  jobId : I64 n.jobId
theorem rSeek (n : Nd) (i : Nat) (hi : i < n.jobs.length) (h : CliOk n) : fn C 73 [] [(aNd n), .int .i64 (i : Nat)] = some (pairC (seekC n i n.jobs[i].id), []) := by
  have row := jb_row n.jobs i hi
  obtain ⟨k1, k2⟩ := h.k.jk _ (List.getElem_mem hi)
  have il := h.k.md.il
  have e1 := e96 n.jobs[i].key k1
  have e2 := e113 n.me n.list (keyI n.jobs[i].key) (idB_lt _) h.k.me (Nat.le_trans h.k.md.ll (by decide)) (fun p hp => h.k.li p hp)
  have e3 := enEq (ownerR n.me n.list (keyI n.jobs[i].key)) n.me
  have e4 := e116 n.items n.jobs[i].key (by omega)
  have e5 := rAsk n i n.jobs[i] (ownerR n.me n.list (keyI n.jobs[i].key)) hi k1 (h.k.md.le (by omega))
  have e6 := e87 n n.jobs[i].id (getR n.items n.jobs[i].key).1 ((getR n.items n.jobs[i].key).2 && !(getR n.items n.jobs[i].key).1.g) 0 (h.k.md.le (by omega))
  have e7 := rSetC n i { n.jobs[i] with phase := 2 } hi (h.k.md.le (by omega))
  have e8 := e115 { n with jobs := n.jobs.set i { n.jobs[i] with phase := 2 } } n.jobs[i].key n.jobs[i].val (decide (n.jobs[i].kind = 2)) enZ 0 n.jobs[i].id (Nat.le_trans k1 (by decide)) (Nat.le_trans k2 (by decide)) h.k.clock h.jobId ((mid_setj i n.jobs[i] { n.jobs[i] with phase := 2 } h.k.md (List.getElem_mem hi) rfl).le (show 80000 ≤ 90000 by omega))
  try simp only at e7 e8
  unfold seekC
  rw [jobG_at hi]
  rw [keyI] at e2 e3 e5 ⊢
  generalize hj : n.jobs[i] = j at *
  by_cases ho : ownerR n.me n.list (idB (keyS ++ j.key)) = n.me
  · have ho' := eq_true ho
    rw [if_pos ho]
    by_cases k3 : j.kind = 3
    · rw [if_pos k3]
      generalize getR n.items j.key = q at *
      obtain ⟨x, b⟩ := q
      generalize settleR n j.id _ _ 0 = d at *
      rw [Nd.cs] at e6
      cases b <;> (simp only [Bool.true_and, Bool.false_and] at e6; rw [fn_text Tryz.func73 rfl rfl Tryz.results73 fq73.1 rfl rfl (by kernel_rfl)]; simp -implicitDefEqProofs -dsimp +contextual (maxSteps := 9999999) (disch := first | omega | simp only [go_sem] <;> omega | refine ib ?_; kernel_rfl) only [go_sem, seval, ↓reduceIte, row, e1, e2, e3, e4, e6, ho', k3])
    · rw [if_neg k3]
      have k3' := eq_false k3
      generalize beginR _ _ _ _ _ _ _ = q at *
      obtain ⟨d, acts⟩ := q
      unfold pairC at e8
      rw [Nd.cs] at e8
      simp only [aNd, enZ, Int.cast_ofNat_Int] at e8
      rw [fn_text Tryz.func73 rfl rfl Tryz.results73 fq73.1 rfl rfl (by kernel_rfl)]
      simp -implicitDefEqProofs -dsimp +contextual (maxSteps := 9999999) (disch := first | omega | simp only [go_sem] <;> omega | refine ib ?_; kernel_rfl) only [go_sem, seval, ↓reduceIte, row, e1, e2, e3, e7, e8, ho', k3', enZ]
  · have ho' := eq_false ho
    rw [if_neg ho]
    generalize ownerR n.me n.list (idB (keyS ++ j.key)) = o at *
    generalize askC n i j o j.id = q at *
    obtain ⟨d, acts⟩ := q
    unfold pairC at e5
    rw [Nd.cs] at e5
    rw [fn_text Tryz.func73 rfl rfl Tryz.results73 fq73.1 rfl rfl (by kernel_rfl)]
    simp -implicitDefEqProofs -dsimp +contextual (maxSteps := 9999999) (disch := first | omega | simp only [go_sem] <;> omega | refine ib ?_; kernel_rfl) only [go_sem, seval, ↓reduceIte, row, e1, e2, e3, e5, ho']
theorem rSeekA (n : Nd) (id : Int) (h : CliOk n) : fn C 17 [] [(aNd n), .int .i64 id] = some (pairC (seekR n id), []) := by
  have e0 := rPlace n id (Nat.le_trans h.k.md.jl (by omega))
  rcases cliP_cases n.jobs id with ⟨i, hi, hid, hm, hf, hc⟩ | ⟨hc, _⟩
  · rw [seekR_at hc]
    rw [hc] at e0
    have e1 := rSeek n i hi h
    rw [hid] at e1
    generalize seekC n i id = q at *
    obtain ⟨d, acts⟩ := q
    unfold pairC at e1
    rw [Nd.cs] at e1
    rw [fn_text Tryz.func17 rfl rfl Tryz.results17 fq17.1 rfl rfl (by kernel_rfl)]
    simp -implicitDefEqProofs -dsimp +contextual (maxSteps := 9999999) (disch := first | omega | simp only [go_sem] <;> omega | refine ib ?_; kernel_rfl) only [go_sem, seval, ↓reduceIte, e0, e1, Nat.not_lt_zero]
  · rw [seekR_none hc]
    rw [hc] at e0
    rw [fn_text Tryz.func17 rfl rfl Tryz.results17 fq17.1 rfl rfl (by kernel_rfl)]
    simp -implicitDefEqProofs -dsimp +contextual (maxSteps := 9999999) (disch := first | omega | simp only [go_sem] <;> omega | refine ib ?_; kernel_rfl) only [go_sem, seval, ↓reduceIte, e0]
def tripC (q : Nd × List Ac) (e : Int) : AVal := .tup [.agg q.1.cs, .slice 20 (q.2.map Ac.cs), .int .i64 e]
theorem cli_add {n : Nd} (kind : Int) (key val : List UInt8) (h : CliOk n) (hm : n.mid 70000) (hk : key.length ≤ 10000) (hv : val.length ≤ 10000) : CliOk (addC n kind key val) := by
  refine ⟨clik_add kind key val h.k hm hk hv, ?_⟩
  show I64 (nextI n.jobId)
  have := h.jobId
  unfold nextI
  split
  · exact ⟨by omega, by omega⟩
  · exact ⟨by omega, by omega⟩
theorem any_step {α : Type} (f : α → Bool) (l : List α) (i : Nat) (h : i < l.length) : (l.take (i + 1)).any f = ((l.take i).any f || f l[i]) := by
  rw [List.take_succ_eq_append_getElem h, List.any_append]; simp
theorem kForC {C : Cf} {lo : Nat} {b : Code} {Q : Exit → Am.St → Option Res} (n : Nat) (I : Nat → (Nat → AVal) → Prop) {R : Option Res} {H : Heap}
    (step : ∀ i f, i < n → I i f → (∀ f', I (i + 1) f' → @kLoop f' H ⟨(C, lo, b, Q)⟩ = R) → dw C lo b (thenK (fun s => @kLoop s.fr s.H ⟨(C, lo, b, Q)⟩) Q) ⟨f, H⟩ = R)
    (last : ∀ f, I n f → dw C lo b (thenK (fun s => @kLoop s.fr s.H ⟨(C, lo, b, Q)⟩) Q) ⟨f, H⟩ = R)
    {f : Nat → AVal} (h0 : I 0 f) : @kLoop f H ⟨(C, lo, b, Q)⟩ = R :=
  kFor n (fun i f H' => I i f ∧ H' = H) (by rintro i f _ hi ⟨h, rfl⟩ ih; exact step i f hi h fun f' h' => ih f' _ ⟨h', rfl⟩) (by rintro f _ ⟨h, rfl⟩; exact last f h) ⟨h0, rfl⟩
theorem rBegin31 (n : Nd) (kind : Int) (key val : List UInt8) (h : CliOk n) (hl : n.mid 70000) (hk : key.length ≤ 10000) (hv : val.length ≤ 10000) : fn C 15 [] [(aNd n), .int .i64 kind, .str key, .str val] = some (tripC (begC n kind key val) (begE n kind key val), []) := by
  have jl := hl.jl
  have hc := h.k.clock
  have hji := h.jobId
  have ky := e67 key
  by_cases hb : kind < 1 ∨ 3 < kind ∨ keyR key = false ∨ 32 < val.length
  · have e : begE n kind key val = 2 := by unfold begE; rw [if_pos hb]
    rw [begC, e, if_neg (by decide)]
    unfold tripC
    by_cases k1 : kind < 1
    · rw [fn_textN Tryz.func15 rfl rfl Tryz.results15 fq15.1 rfl rfl (by kernel_rfl)]
      simp -implicitDefEqProofs -dsimp +contextual (maxSteps := 9999999) (disch := first | omega | simp only [go_sem] <;> omega | refine ib ?_; kernel_rfl) only [go_sem, seval, ↓reduceIte, k1]
    by_cases k2 : 3 < kind
    · rw [fn_textN Tryz.func15 rfl rfl Tryz.results15 fq15.1 rfl rfl (by kernel_rfl)]
      simp -implicitDefEqProofs -dsimp +contextual (maxSteps := 9999999) (disch := first | omega | simp only [go_sem] <;> omega | refine ib ?_; kernel_rfl) only [go_sem, seval, ↓reduceIte, k1, k2]
    cases hkk : keyR key with
    | false =>
      rw [hkk] at ky
      rw [fn_textN Tryz.func15 rfl rfl Tryz.results15 fq15.1 rfl rfl (by kernel_rfl)]
      simp -implicitDefEqProofs -dsimp +contextual (maxSteps := 9999999) (disch := first | omega | simp only [go_sem] <;> omega | refine ib ?_; kernel_rfl) only [go_sem, seval, ↓reduceIte, ky, k1, k2]
    | true =>
      rw [hkk] at ky
      have hb : 32 < val.length := by
        rcases hb with hb | hb | hb | hb
        · omega
        · omega
        · rw [hkk] at hb; cases hb
        · omega
      rw [fn_textN Tryz.func15 rfl rfl Tryz.results15 fq15.1 rfl rfl (by kernel_rfl)]
      simp -implicitDefEqProofs -dsimp +contextual (maxSteps := 9999999) (disch := first | omega | simp only [go_sem] <;> omega | refine ib ?_; kernel_rfl) only [go_sem, seval, ↓reduceIte, ky, k1, k2, hb]
  · have k1 : ¬ kind < 1 := by omega
    have k2 : ¬ 3 < kind := by omega
    have hb3 : keyR key = true := by
      cases hq : keyR key with
      | true => rfl
      | false => exact absurd (.inr (.inr (.inl hq))) hb
    have hb4 : ¬ 32 < val.length := by omega
    rw [hb3] at ky
    obtain ⟨B, hB⟩ : ∃ B : Bool, B = (!n.ready || decide (7 < n.jobs.length)) := ⟨_, rfl⟩
    have e : begE n kind key val = if (B || n.jobs.any mineJ) = true then 41 else 0 := by
      unfold begE
      rw [if_neg hb, hB]
      cases n.ready <;> cases n.jobs.any mineJ <;> simp <;> (try (split <;> split <;> omega))
    have hcj := cli_add kind key val h hl hk hv
    have sk := rSeekA (addC n kind key val) (nextI n.jobId) hcj
    clear hb hcj
    obtain ⟨R, hR, r1, r2⟩ : ∃ R : Option Res, some (tripC (begC n kind key val) (begE n kind key val), []) = R ∧ ((B || n.jobs.any mineJ) = true → R = some (tripC (n, []) 41, [])) ∧ ((B || n.jobs.any mineJ) = false → R = some (tripC (seekR (addC n kind key val) (nextI n.jobId)) 0, [])) := by
      refine ⟨_, rfl, fun hx => ?_, fun hx => ?_⟩
      · rw [begC, e, hx]; rfl
      · rw [begC, e, hx]; rfl
    rw [hR]
    clear hR e
    generalize seekR (addC n kind key val) (nextI n.jobId) = q at *
    obtain ⟨d, acts⟩ := q
    unfold tripC at r1 r2
    unfold pairC at sk
    rw [Nd.cs] at sk
    unfold addC newC at sk
    simp only [aNd, jbZ, enZ, zeroIt, List.map_nil, Int.cast_ofNat_Int, List.map_append, List.map_cons, Jb.cs] at sk
    have n1 : ∀ _ : n.jobId < 0, nextI n.jobId = 1 := fun h' => by unfold nextI; rw [if_pos (.inl h')]
    have n2 : ∀ _ : 1073741824 ≤ n.jobId, nextI n.jobId = 1 := fun h' => by unfold nextI; rw [if_pos (.inr h')]
    have n3 : ∀ _ : ¬ n.jobId < 0, ∀ _ : ¬ 1073741824 ≤ n.jobId, nextI n.jobId = n.jobId + 1 := fun h1 h2 => by unfold nextI; rw [if_neg (by omega)]
    cases hr : n.ready
    all_goals
      rw [hr] at sk
      rw [fn_textN Tryz.func15 rfl rfl Tryz.results15 fq15.1 rfl rfl (by kernel_rfl)]
      simp -implicitDefEqProofs -dsimp +contextual (maxSteps := 9999999) (disch := first | omega | simp only [go_sem] <;> omega | refine ib ?_; kernel_rfl) only [go_sem, seval, ↓reduceIte, ky, k1, k2, hb4, hr]
      refine kForC n.jobs.length (fun i f => f 1 = .int .i64 kind ∧ f 2 = .str key ∧ f 3 = .str val ∧ f 4 = .ptr 104 1 0 0 ∧ f 8 = .ptr 108 1 0 0 ∧ f 11 = .bool (B || (n.jobs.take i).any mineJ) ∧ f 12 = .int .i64 (i : Nat)) ?_ ?_
        (by refine ⟨rfl, rfl, rfl, rfl, rfl, ?_, rfl⟩; rw [hB, hr]; simp [upd])
      · rintro i f hi ⟨f1, f2, f3, f4, f8, f11, f12⟩ ih
        have row := jb_row n.jobs i hi
        have e1 := e68 n.jobs[i]
        have st := any_step mineJ n.jobs i hi
        cases hx : (B || (n.jobs.take i).any mineJ) with
        | true =>
          rw [hx] at f11
          simp -implicitDefEqProofs -dsimp +contextual (maxSteps := 9999999) (disch := first | omega | simp only [go_sem] <;> omega | refine ib ?_; kernel_rfl) only [go_sem, seval, ↓reduceIte, f1, f2, f3, f4, f8, f11, f12, hi, row, e1, hr]
          refine ih _ ⟨f1, f2, f3, f4, f8, ?_, rfl⟩
          rw [st, ← Bool.or_assoc, hx]
          rfl
        | false =>
          rw [hx] at f11
          simp -implicitDefEqProofs -dsimp +contextual (maxSteps := 9999999) (disch := first | omega | simp only [go_sem] <;> omega | refine ib ?_; kernel_rfl) only [go_sem, seval, ↓reduceIte, f1, f2, f3, f4, f8, f11, f12, hi, row, e1, hr]
          refine ih _ ⟨f1, f2, f3, f4, f8, ?_, rfl⟩
          rw [st, ← Bool.or_assoc, hx]
          rfl
      · rintro f ⟨f1, f2, f3, f4, f8, f11, f12⟩
        rw [List.take_length] at f11
        cases hx : (B || n.jobs.any mineJ) with
        | true =>
          rw [hx] at f11
          rw [r1 hx]
          simp -implicitDefEqProofs -dsimp +contextual (maxSteps := 9999999) (disch := first | omega | simp only [go_sem] <;> omega | refine ib ?_; kernel_rfl) only [go_sem, seval, ↓reduceIte, f1, f2, f3, f4, f8, f11, f12, hr]
        | false =>
          rw [hx] at f11
          rw [r2 hx]
          clear hx
          by_cases g1 : n.jobId < 0
          · rw [n1 g1] at sk
            by_cases kk1 : kind = 1
            · subst kk1
              simp only [aNd, eq_self, if_true] at sk
              simp -implicitDefEqProofs -dsimp +contextual (maxSteps := 9999999) (disch := first | omega | simp only [go_sem] <;> omega | refine ib ?_; kernel_rfl) only [go_sem, seval, ↓reduceIte, f1, f2, f3, f4, f8, f11, f12, hr, g1, sk]
            · have k1' := eq_false kk1
              simp only [aNd, k1', if_false] at sk
              simp -implicitDefEqProofs -dsimp +contextual (maxSteps := 9999999) (disch := first | omega | simp only [go_sem] <;> omega | refine ib ?_; kernel_rfl) only [go_sem, seval, ↓reduceIte, f1, f2, f3, f4, f8, f11, f12, hr, g1, sk, k1']
          · by_cases g2 : 1073741824 ≤ n.jobId
            · rw [n2 g2] at sk
              by_cases kk1 : kind = 1
              · subst kk1
                simp only [aNd, eq_self, if_true] at sk
                simp -implicitDefEqProofs -dsimp +contextual (maxSteps := 9999999) (disch := first | omega | simp only [go_sem] <;> omega | refine ib ?_; kernel_rfl) only [go_sem, seval, ↓reduceIte, f1, f2, f3, f4, f8, f11, f12, hr, g1, g2, sk]
              · have k1' := eq_false kk1
                simp only [aNd, k1', if_false] at sk
                simp -implicitDefEqProofs -dsimp +contextual (maxSteps := 9999999) (disch := first | omega | simp only [go_sem] <;> omega | refine ib ?_; kernel_rfl) only [go_sem, seval, ↓reduceIte, f1, f2, f3, f4, f8, f11, f12, hr, g1, g2, sk, k1']
            · rw [n3 g1 g2] at sk
              by_cases kk1 : kind = 1
              · subst kk1
                simp only [aNd, eq_self, if_true] at sk
                simp -implicitDefEqProofs -dsimp +contextual (maxSteps := 9999999) (disch := first | omega | simp only [go_sem] <;> omega | refine ib ?_; kernel_rfl) only [go_sem, seval, ↓reduceIte, f1, f2, f3, f4, f8, f11, f12, hr, g1, g2, sk]
              · have k1' := eq_false kk1
                simp only [aNd, k1', if_false] at sk
                simp -implicitDefEqProofs -dsimp +contextual (maxSteps := 9999999) (disch := first | omega | simp only [go_sem] <;> omega | refine ib ?_; kernel_rfl) only [go_sem, seval, ↓reduceIte, f1, f2, f3, f4, f8, f11, f12, hr, g1, g2, sk, k1']
def lateS (clock : Int) (p : List Jb × List Rs) (j : Jb) : List Jb × List Rs := if lateK clock j = true then (p.1, lastR (p.2 ++ [resR j.id j zeroIt false 43])) else (p.1 ++ [j], p.2)
theorem lateS_eq (clock : Int) (l : List Jb) : ∀ p : List Jb × List Rs, l.foldl (lateS clock) p = (p.1 ++ l.filter (fun j => !lateK clock j), (l.filter (lateK clock)).foldl (fun rs j => lastR (rs ++ [resR j.id j zeroIt false 43])) p.2) := by
  induction l with
  | nil => intro p; simp
  | cons j l ih =>
    intro p
    rw [List.foldl_cons, ih]
    cases h : lateK clock j with
    | true => simp [lateS, h]
    | false => simp [lateS, h]
def lateP (n : Nd) (i : Nat) : List Jb × List Rs := (n.jobs.take i).foldl (lateS n.clock) ([], n.results)
theorem lateP_succ (n : Nd) (i : Nat) (hi : i < n.jobs.length) : lateP n (i + 1) = lateS n.clock (lateP n i) n.jobs[i] := by
  unfold lateP
  rw [List.take_succ_eq_append_getElem hi, List.foldl_append]
  rfl
theorem lateP_len (n : Nd) (k : Nat) (hk : 16 ≤ k) (hr : n.results.length ≤ k) : ∀ i, i ≤ n.jobs.length → (lateP n i).1.length ≤ i ∧ (lateP n i).2.length ≤ k
  | 0, _ => ⟨Nat.le_refl _, hr⟩
  | i + 1, hi => by
    obtain ⟨h1, h2⟩ := lateP_len n k hk hr i (by omega)
    rw [lateP_succ n i (by omega)]
    unfold lateS
    split
    · exact ⟨Nat.le_succ_of_le h1, Nat.le_trans (lastR_le _) hk⟩
    · exact ⟨by simp; omega, h2⟩
theorem lateP_end (n : Nd) : lateC n = { n with jobs := (lateP n n.jobs.length).1, results := (lateP n n.jobs.length).2 } := by
  unfold lateP lateC
  rw [List.take_length, lateS_eq]
  rfl
theorem one_mid (j : Jb) (rs : List Rs) (ha : j.asked.length ≤ 1000000) (hr : rs.length ≤ 1000000) : ({ ndZ with jobs := [j], results := rs } : Nd).mid 1000000 :=
  ⟨by simp [ndZ], by simp [ndZ], by simp [ndZ], by simp [ndZ], by simp [ndZ], by simp [ndZ], by simp, by simp [ndZ], hr, by simp [ndZ], by simp [ndZ], fun x hx => by rw [List.mem_singleton] at hx; rw [hx]; exact ha, by simp [ndZ]⟩
theorem rLate (n : Nd) (h : n.mid 70000) : fn C 21 [] [(aNd n)] = some (.agg (lateC n).cs, []) := by
  have jl := h.jl
  rw [lateP_end]
  rw [fn_textN Tryz.func21 rfl rfl Tryz.results21 fq21.1 rfl rfl (by kernel_rfl)]
  simp -implicitDefEqProofs -dsimp +contextual (maxSteps := 9999999) (disch := first | omega | simp only [go_sem] <;> omega | refine ib ?_; kernel_rfl) only [go_sem, seval, ↓reduceIte]
  refine kFor n.jobs.length (fun i f H => f 1 = .ptr 101 1 0 0 ∧ f 2 = .ptr 102 1 0 0 ∧ f 4 = .int .i64 (i : Nat) ∧ (H 102).gen = 1 ∧ (H 102).mode = .live ∧ (∃ r : List AVal, r.length = 22 ∧ (H 102).rows = [r]) ∧ H 101 = ⟨1, .live, 22, [[.str n.me.name, .int .u64 (n.me.id : Int), .int .i64 n.me.fr, .int .i64 n.me.un, .int .i64 n.me.ix, .str n.me.tag, .int .i64 n.clock, .str n.psk, .int .i64 n.gateI, .str n.gateK, .bool n.ready, .slice 8 (n.pred.map Pr.cs), .slice 8 (n.list.map Pr.cs), .slice 9 (n.fingers.map Fg.cs), .slice 20 (n.sessions.map Se.cs), .slice 23 (n.pends.map Pd.cs), .slice 4 (n.items.map It.cs), .slice 29 (n.jobs.map Jb.cs), .int .i64 n.rid, .int .i64 n.jobId, .slice 1 (n.draws.map u64Row), .slice 8 ((lateP n i).2.map Rs.cs)]], false⟩ ∧
    (∃ g, f 3 = .osl 103 g 0 (lateP n i).1.length ∧ H 103 = ⟨g, .live, 29, (lateP n i).1.map Jb.cs, false⟩)) ?_ ?_
    (by exact ⟨rfl, rfl, rfl, rfl, rfl, ⟨_, rfl, rfl⟩, rfl, ⟨1, rfl, rfl⟩⟩)
  · rintro i f H hi ⟨f1, f2, f4, H2, H2m, ⟨r, hr, H2r⟩, H1, ⟨g, f3, H3⟩⟩ ih
    have row := jb_row n.jobs i hi
    have e1 := e68 n.jobs[i]
    obtain ⟨l1, l2⟩ := lateP_len n 70000 (by omega) h.rl i (by omega)
    rw [lateP_succ n i hi] at ih
    generalize lateP n i = p at *
    obtain ⟨ps, rs⟩ := p
    try simp only at l1 l2 f3 H1 H3
    have se := e87 { ndZ with jobs := [n.jobs[i]], results := rs } n.jobs[i].id zeroIt false 43 (one_mid _ _ (Nat.le_trans (h.ja _ (List.getElem_mem hi)) (by omega)) (by omega))
    rw [settle_one rfl rfl, Nd.cs] at se
    simp only [aNd, ndZ, enZ, zeroIt, List.map_nil, List.map_cons, Int.cast_ofNat_Int, Jb.cs] at se
    by_cases hk : lateK n.clock n.jobs[i] = true
    · have hst : lateS n.clock (ps, rs) n.jobs[i] = (ps, lastR (rs ++ [resR n.jobs[i].id n.jobs[i] zeroIt false 43])) := by unfold lateS; rw [if_pos hk]
      rw [hst] at ih
      try simp only at ih
      unfold lateK at hk
      simp only [aNd, Bool.and_eq_true, decide_eq_true_eq] at hk
      obtain ⟨k1, k2⟩ := hk
      rw [k1] at e1
      simp only [aNd, zeroIt] at ih
      generalize lastR _ = rs2 at *
      simp -implicitDefEqProofs -dsimp +contextual (maxSteps := 9999999) (disch := first | omega | simp only [go_sem] <;> omega | refine ib ?_; kernel_rfl) only [go_sem, seval, ↓reduceIte, f1, f2, f3, f4, H1, H3, hi, row, e1, k2, se]
      refine ih _ _ ?_
      exact ⟨f1, f2, rfl, H2, H2m, ⟨r, hr, H2r⟩, rfl, ⟨g, f3, H3⟩⟩
    · have hst : lateS n.clock (ps, rs) n.jobs[i] = (ps ++ [n.jobs[i]], rs) := by unfold lateS; rw [if_neg hk]
      rw [hst] at ih
      try simp only at ih
      clear se
      cases k1 : mineJ n.jobs[i] with
      | false =>
        rw [k1] at e1
        simp -implicitDefEqProofs -dsimp +contextual (maxSteps := 9999999) (disch := first | omega | simp only [go_sem] <;> omega | refine ib ?_; kernel_rfl) only [go_sem, seval, ↓reduceIte, f1, f2, f3, f4, H1, H3, hi, row, e1]
        exact ih _ _ ⟨f1, f2, rfl, H2, H2m, ⟨r, hr, H2r⟩, H1, ⟨g + 1, by rw [List.length_append]; rfl, by rw [List.map_append]; rfl⟩⟩
      | true =>
        rw [k1] at e1
        have k2 : n.clock ≤ n.jobs[i].til := by
          unfold lateK at hk
          rw [k1] at hk
          simp at hk
          omega
        simp -implicitDefEqProofs -dsimp +contextual (maxSteps := 9999999) (disch := first | omega | simp only [go_sem] <;> omega | refine ib ?_; kernel_rfl) only [go_sem, seval, ↓reduceIte, f1, f2, f3, f4, H1, H3, hi, row, e1, k2]
        exact ih _ _ ⟨f1, f2, rfl, H2, H2m, ⟨r, hr, H2r⟩, H1, ⟨g + 1, by rw [List.length_append]; rfl, by rw [List.map_append]; rfl⟩⟩
  · rintro f H ⟨f1, f2, f4, H2, H2m, ⟨r, hr, H2r⟩, H1, ⟨g, f3, H3⟩⟩
    obtain ⟨l1, l2⟩ := lateP_len n 70000 (by omega) h.rl n.jobs.length (Nat.le_refl _)
    generalize lateP n n.jobs.length = p at *
    obtain ⟨ps, rs⟩ := p
    try simp only at f3 H3 H1 l1 l2 ⊢
    simp -implicitDefEqProofs -dsimp +contextual (maxSteps := 9999999) (disch := first | omega | simp only [go_sem] <;> omega | refine ib ?_; kernel_rfl) only [go_sem, seval, ↓reduceIte, f1, f2, f3, f4, H1, H3, H2, H2m, hr, H2r]
theorem late_step (n : Nd) (l : List Jb) (rs : List Rs) (i : Nat) (hi : i < l.length) (ha : (l.take i).any (lateK n.clock) = false) (hq : lateK n.clock l[i] = true) : lateC { n with jobs := l, results := rs } = lateC { n with jobs := l.eraseIdx i, results := lastR (rs ++ [resR l[i].id l[i] zeroIt false 43]) } := by
  have e1 : l = l.take i ++ l[i] :: l.drop (i + 1) := by rw [← List.drop_eq_getElem_cons hi, List.take_append_drop]
  have e2 : l.eraseIdx i = l.take i ++ l.drop (i + 1) := List.eraseIdx_eq_take_drop_succ ..
  have f0 : (l.take i).filter (lateK n.clock) = [] := List.filter_eq_nil_iff.2 fun x hx => List.any_eq_false.1 ha x hx
  have f1 : l.filter (lateK n.clock) = l[i] :: (l.drop (i + 1)).filter (lateK n.clock) := by
    conv => lhs; rw [e1]
    rw [List.filter_append, f0, List.filter_cons, if_pos hq, List.nil_append]
  have f2 : (l.eraseIdx i).filter (lateK n.clock) = (l.drop (i + 1)).filter (lateK n.clock) := by rw [e2, List.filter_append, f0, List.nil_append]
  have f3 : l.filter (fun j => !lateK n.clock j) = (l.eraseIdx i).filter (fun j => !lateK n.clock j) := by
    rw [e2]
    conv => lhs; rw [e1]
    rw [List.filter_append, List.filter_append, List.filter_cons, if_neg (by simp [hq])]
  unfold lateC
  simp only
  rw [f1, f2, f3, List.foldl_cons]
theorem late_end (n : Nd) (l : List Jb) (rs : List Rs) (ha : l.any (lateK n.clock) = false) : lateC { n with jobs := l, results := rs } = { n with jobs := l, results := rs } := by
  have f0 : l.filter (lateK n.clock) = [] := List.filter_eq_nil_iff.2 fun x hx => List.any_eq_false.1 ha x hx
  have f1 : l.filter (fun j => !lateK n.clock j) = l := List.filter_eq_self.2 fun x hx => by
    have := List.any_eq_false.1 ha x hx
    simpa using this
  unfold lateC
  simp only
  rw [f0, f1]
  rfl
theorem eLateC1 (j : Jb) (n : Nd) : fn C 83 [] [.agg [.int .i64 j.id, .int .i64 j.kind, .int .i64 j.phase, .int .i64 j.hops, .int .i64 j.tries, .int .i64 j.til, .str j.key, .str j.val, .str j.owner.name, .int .u64 (j.owner.id : Int), .int .i64 j.owner.fr, .int .i64 j.owner.un, .int .i64 j.owner.ix, .str j.owner.tag, .str j.item.k, .str j.item.v, .int .i64 j.item.n, .bool j.item.g, .int .i64 j.acks, .int .i64 j.waits, .slice 1 (j.asked.map strRow), .str j.back.name, .int .u64 (j.back.id : Int), .int .i64 j.back.fr, .int .i64 j.back.un, .int .i64 j.back.ix, .str j.back.tag, .int .i64 j.backRid, .int .i64 j.backJob], .iptr [.str n.me.name, .int .u64 (n.me.id : Int), .int .i64 n.me.fr, .int .i64 n.me.un, .int .i64 n.me.ix, .str n.me.tag, .int .i64 n.clock, .str n.psk, .int .i64 n.gateI, .str n.gateK, .bool n.ready, .slice 8 (n.pred.map Pr.cs), .slice 8 (n.list.map Pr.cs), .slice 9 (n.fingers.map Fg.cs), .slice 20 (n.sessions.map Se.cs), .slice 23 (n.pends.map Pd.cs), .slice 4 (n.items.map It.cs), .slice 29 (n.jobs.map Jb.cs), .int .i64 n.rid, .int .i64 n.jobId, .slice 1 (n.draws.map u64Row), .slice 8 (n.results.map Rs.cs)]] = some (.bool (lateK n.clock j), []) := by
  have mi := e63 j
  unfold lateK
  rw [fn_text Tryz.func83 rfl rfl Tryz.results83 fq83.1 rfl rfl (by kernel_rfl)]
  cases hm : mineJ j with
  | true =>
    rw [hm] at mi
    simp -implicitDefEqProofs -dsimp +contextual (maxSteps := 9999999) (disch := first | omega | simp only [go_sem] <;> omega | refine ib ?_; kernel_rfl) only [go_sem, seval, ↓reduceIte, mi]
    all_goals ((repeat' (refine kD_intro (fun _ => ?_) (fun _ => ?_))) <;> exact Res_bool (by simp [*]))
  | false =>
    rw [hm] at mi
    simp -implicitDefEqProofs -dsimp +contextual (maxSteps := 9999999) (disch := first | omega | simp only [go_sem] <;> omega | refine ib ?_; kernel_rfl) only [go_sem, seval, ↓reduceIte, mi]
theorem eIdxLateC (l : List Jb) (n : Nd) (hl : l.length ≤ 9223372036854775807) : fn C 84 [] [.slice 29 (l.map Jb.cs), .fn (.func 83) [] [.iptr [.str n.me.name, .int .u64 (n.me.id : Int), .int .i64 n.me.fr, .int .i64 n.me.un, .int .i64 n.me.ix, .str n.me.tag, .int .i64 n.clock, .str n.psk, .int .i64 n.gateI, .str n.gateK, .bool n.ready, .slice 8 (n.pred.map Pr.cs), .slice 8 (n.list.map Pr.cs), .slice 9 (n.fingers.map Fg.cs), .slice 20 (n.sessions.map Se.cs), .slice 23 (n.pends.map Pd.cs), .slice 4 (n.items.map It.cs), .slice 29 (n.jobs.map Jb.cs), .int .i64 n.rid, .int .i64 n.jobId, .slice 1 (n.draws.map u64Row), .slice 8 (n.results.map Rs.cs)]]] = some (.int .i64 (placeG (lateK n.clock) l), []) := by
  rw [fn_text Tryz.func84 rfl rfl Tryz.results84 fq84.1 rfl rfl (by kernel_rfl)]
  simp -implicitDefEqProofs -dsimp +contextual (maxSteps := 9999999) (disch := first | omega | simp only [go_sem] <;> omega | refine ib ?_; kernel_rfl) only [go_sem, seval, ↓reduceIte]
  refine kFor l.length (fun i f H => f 0 = .slice 29 (l.map Jb.cs) ∧ f 1 = .fn (.func 83) [] [.iptr [.str n.me.name, .int .u64 (n.me.id : Int), .int .i64 n.me.fr, .int .i64 n.me.un, .int .i64 n.me.ix, .str n.me.tag, .int .i64 n.clock, .str n.psk, .int .i64 n.gateI, .str n.gateK, .bool n.ready, .slice 8 (n.pred.map Pr.cs), .slice 8 (n.list.map Pr.cs), .slice 9 (n.fingers.map Fg.cs), .slice 20 (n.sessions.map Se.cs), .slice 23 (n.pends.map Pd.cs), .slice 4 (n.items.map It.cs), .slice 29 (n.jobs.map Jb.cs), .int .i64 n.rid, .int .i64 n.jobId, .slice 1 (n.draws.map u64Row), .slice 8 (n.results.map Rs.cs)]] ∧ f 7 = .int .i64 l.length ∧ f 8 = .int .i64 (i : Nat) ∧ H = Heap.nil ∧ (l.take i).any (lateK n.clock) = false) ?_ ?_ (by exact ⟨rfl, rfl, rfl, rfl, rfl, rfl⟩)
  · rintro i f _ hi ⟨f0, f1, f7, f8, rfl, ha⟩ ih
    have lt := eLateC1 l[i] n
    cases hp : lateK n.clock l[i] with
    | true =>
      rw [hp] at lt
      simp -implicitDefEqProofs -dsimp +contextual (maxSteps := 9999999) (disch := first | omega | simp only [go_sem] <;> omega | refine ib ?_; kernel_rfl) only [go_sem, seval, ↓reduceIte, f0, f1, f7, f8, hi, lt]
      rw [placeG_at hi ha hp]
    | false =>
      rw [hp] at lt
      simp -implicitDefEqProofs -dsimp +contextual (maxSteps := 9999999) (disch := first | omega | simp only [go_sem] <;> omega | refine ib ?_; kernel_rfl) only [go_sem, seval, ↓reduceIte, f0, f1, f7, f8, hi, lt]
      exact ih _ _ ⟨f0, f1, f7, rfl, rfl, any_take hi ha hp⟩
  · rintro f _ ⟨f0, f1, f7, f8, rfl, ha⟩
    simp -implicitDefEqProofs -dsimp +contextual (maxSteps := 9999999) (disch := first | omega | simp only [go_sem] <;> omega | refine ib ?_; kernel_rfl) only [go_sem, seval, ↓reduceIte, f0, f1, f7, f8]
    rw [placeG_none (any_end ha)]
theorem mid_sub {n : Nd} {k : Nat} (l : List Jb) (rs : List Rs) (h : n.mid k) (hl : ∀ j ∈ l, j ∈ n.jobs) (hn : l.length ≤ k) (hr : rs.length ≤ k) : ({ n with jobs := l, results := rs } : Nd).mid k :=
  ⟨h.pl, h.ll, h.fl, h.sl, h.dl, h.il, hn, h.wl, hr, h.pe, h.pi, fun j hj => h.ja j (hl j hj), h.ik⟩
theorem eLateC (n : Nd) (h : n.mid 70000) : fn C4 20 [] [(aNd n)] = some (.agg (lateC n).cs, []) := by
  have jl := h.jl
  have cp := e13 n (h.le (by omega))
  have cf := eIdxLateC n.jobs n (by omega)
  obtain ⟨R, hR⟩ : ∃ R, some (AVal.agg (lateC n).cs, []) = (R : Option Res) := ⟨_, rfl⟩
  rw [hR]
  rw [fn_textN (C := C4) Tryz.func20 rfl rfl Tryz.results20 (show (C4).M.loc 20 = _ from fq20.1) rfl rfl (by kernel_rfl)]
  simp -implicitDefEqProofs -dsimp +contextual (maxSteps := 9999999) (disch := first | omega | simp only [go_sem] <;> omega | refine ib ?_; kernel_rfl) only [go_sem, seval, ↓reduceIte, cp, cf]
  refine kLoop_rec (fun (a : List Jb × List Rs) f H => (∀ j ∈ a.1, j ∈ n.jobs) ∧ a.1.length ≤ n.jobs.length ∧ a.2.length ≤ 70000 ∧ lateC { n with jobs := a.1, results := a.2 } = lateC n ∧
    f 2 = .ptr 102 1 0 0 ∧ f 3 = .ptr 103 1 0 0 ∧ f 4 = .fn (.func 83) [] [.ptr 103 1 0 0] ∧ f 5 = .int .i64 (placeG (lateK n.clock) a.1) ∧ (H 102).gen = 1 ∧ (H 102).mode = .live ∧ (∃ r : List AVal, r.length = 22 ∧ (H 102).rows = [r]) ∧
    ∃ xa xb xc xd ga gb gc gd : Nat, ((xa = 109015 ∧ xb = 109016 ∧ xc = 109018 ∧ xd = 109022) ∨ (xa = 139015 ∧ xb = 139016 ∧ xc = 131 ∧ xd = 139022)) ∧
      H 103 = ⟨1, .live, 22, [[.str n.me.name, .int .u64 (n.me.id : Int), .int .i64 n.me.fr, .int .i64 n.me.un, .int .i64 n.me.ix, .str n.me.tag, .int .i64 n.clock, .str n.psk, .int .i64 n.gateI, .str n.gateK, .bool n.ready, .slice 8 (n.pred.map Pr.cs), .slice 8 (n.list.map Pr.cs), .slice 9 (n.fingers.map Fg.cs), .osl xa ga 0 n.sessions.length, .osl xb gb 0 n.pends.length, .slice 4 (n.items.map It.cs), .osl xc gc 0 a.1.length, .int .i64 n.rid, .int .i64 n.jobId, .slice 1 (n.draws.map u64Row), .osl xd gd 0 a.2.length]], false⟩ ∧
      H xa = ⟨ga, .live, 20, n.sessions.map Se.cs, false⟩ ∧ H xb = ⟨gb, .live, 23, n.pends.map Pd.cs, false⟩ ∧ H xc = ⟨gc, .live, 29, a.1.map Jb.cs, false⟩ ∧ H xd = ⟨gd, .live, 8, a.2.map Rs.cs, false⟩)
    (fun a => a.1.length) (fun _ => R) ?_ (n.jobs, n.results) _ _
    (by exact ⟨fun _ h => h, Nat.le_refl _, h.rl, rfl, rfl, rfl, rfl, rfl, rfl, rfl, ⟨_, rfl, rfl⟩, 109015, 109016, 109018, 109022, 1, 1, 1, 1, .inl ⟨rfl, rfl, rfl, rfl⟩, rfl, rfl, rfl, rfl, rfl⟩)
  rintro ⟨l, rs⟩ f H ⟨hs, hl, hrs, hlc, f2, f3, f4, f5, H2, H2m, ⟨r, hr, H2r⟩, xa, xb, xc, xd, ga, gb, gc, gd, hx, H3, Ha, Hb, Hc, Hd⟩ ih
  try simp only at hs hl hrs hlc f5 H3 Hc Hd ih
  rcases placeG_cases (lateK n.clock) l with ⟨i, hi, hp, hq, hf⟩ | ⟨hq, hf⟩
  · rw [hf] at f5
    have row := jb_row l i hi
    have dl := eDelJobs l i hi (by omega)
    have hj := hs _ (List.getElem_mem hi)
    have se := e86 { n with jobs := [l[i]], results := rs } l[i].id zeroIt false 43 ((mid_sub [l[i]] rs h (fun j hj' => by rw [List.mem_singleton] at hj'; rw [hj']; exact hj) (by simp) hrs).le (by omega))
    rw [settle_one rfl rfl, Nd.ocs_eq] at se
    simp only [aNd, zeroIt, List.map_nil, List.map_cons, Jb.cs] at se
    have st := late_step n l rs i hi hq hp
    rw [hlc] at st
    have hlen : (l.eraseIdx i).length + 1 = l.length := by rw [List.length_eraseIdx_of_lt hi]; omega
    have cf' := fun rs' => eIdxLateC (l.eraseIdx i) { n with jobs := l.eraseIdx i, results := rs' } (by omega)
    have ih' := ih (l.eraseIdx i, lastR (rs ++ [resR l[i].id l[i] zeroIt false 43]))
    try simp only at ih' cf'
    have hr2 := lastR_le (rs ++ [resR l[i].id l[i] zeroIt false 43])
    simp only [aNd, zeroIt] at ih' st hr2
    clear ih
    generalize lastR _ = rs2 at *
    rcases hx with ⟨rfl, rfl, rfl, rfl⟩ | ⟨rfl, rfl, rfl, rfl⟩
    all_goals
      simp -implicitDefEqProofs -dsimp +contextual (maxSteps := 9999999) (disch := first | omega | simp only [go_sem] <;> omega | refine ib ?_; kernel_rfl) only [go_sem, seval, ↓reduceIte, f2, f3, f4, f5, H3, Ha, Hb, Hc, Hd, hi, row, dl, se, cf', Nat.not_lt_zero]
      refine ih' _ _ ?_ (by omega)
      exact ⟨fun j hj => hs j (List.mem_of_mem_eraseIdx hj), by omega, by omega, st.symm, f2, f3, f4, rfl, H2, H2m, ⟨r, hr, H2r⟩, 139015, 139016, 131, 139022, _, _, _, _, .inr ⟨rfl, rfl, rfl, rfl⟩, rfl, rfl, rfl, rfl, rfl⟩
  · rw [hf] at f5
    have en := late_end n l rs hq
    rw [hlc] at en
    rw [← hR, en]
    rcases hx with ⟨rfl, rfl, rfl, rfl⟩ | ⟨rfl, rfl, rfl, rfl⟩
    all_goals simp -implicitDefEqProofs -dsimp +contextual (maxSteps := 9999999) (disch := first | omega | simp only [go_sem] <;> omega | refine ib ?_; kernel_rfl) only [go_sem, seval, ↓reduceIte, f2, f3, f4, f5, H2, H2m, hr, H2r, H3, Ha, Hb, Hc, Hd]
end Go.Proofs.YtnpkhdjgedeppaaGreatDoor
namespace Go.Proofs.YtnpkhdjgedeppaaGreatDoor
set_option maxHeartbeats 64000000
open Go.Am
set_option linter.unusedSimpArgs false
set_option linter.unusedVariables false
set_option maxRecDepth 100000
end Go.Proofs.YtnpkhdjgedeppaaGreatDoor
namespace Go.Proofs.YtnpkhdjgedeppaaGreatDoor
set_option maxHeartbeats 64000000
open Go.Am
set_option linter.unusedSimpArgs false
set_option linter.unusedVariables false
set_option maxRecDepth 100000
attribute [local irreducible] distR idB sumB
end Go.Proofs.YtnpkhdjgedeppaaGreatDoor
namespace Go.Proofs.YtnpkhdjgedeppaaGreatDoor
set_option maxHeartbeats 64000000
open Go.Am
set_option linter.unusedSimpArgs false
set_option linter.unusedVariables false
set_option maxRecDepth 100000
end Go.Proofs.YtnpkhdjgedeppaaGreatDoor
namespace Go.Proofs.YtnpkhdjgedeppaaGreatDoor
set_option maxHeartbeats 64000000
open Go.Am
set_option linter.unusedSimpArgs false
set_option linter.unusedVariables false
set_option maxRecDepth 100000
attribute [local irreducible] distR idB sumB
structure AloneOk (n : Nd) (key val : List UInt8) : Prop where
  l : n.list = []
  j : n.jobs = []
  r : n.ready = true
  k : keyR key = true
  v : val.length ≤ 32
  room : (getR n.items key).2 = true ∨ n.items.length < 16
  n0 : 0 ≤ (getR n.items key).1.n
  n1 : (getR n.items key).1.n ≤ 1000
end Go.Proofs.YtnpkhdjgedeppaaGreatDoor
namespace Go.Proofs.YtnpkhdjgedeppaaGreatDoor
set_option maxHeartbeats 64000000
open Go.Am
set_option linter.unusedSimpArgs false
set_option linter.unusedVariables false
set_option maxRecDepth 100000
def resG (r : Rs) : Bool := decide (300 < r.key.length) || decide (300 < r.val.length)
@[go_sem] theorem e10 (n : Nd) (h : n.fit) : fn C 10 [] [.agg [.str n.me.name, .int .u64 (n.me.id : Int), .int .i64 n.me.fr, .int .i64 n.me.un, .int .i64 n.me.ix, .str n.me.tag, .int .i64 n.clock, .str n.psk, .int .i64 n.gateI, .str n.gateK, .bool n.ready, .slice 8 (n.pred.map Pr.cs), .slice 8 (n.list.map Pr.cs), .slice 9 (n.fingers.map Fg.cs), .slice 20 (n.sessions.map Se.cs), .slice 23 (n.pends.map Pd.cs), .slice 4 (n.items.map It.cs), .slice 29 (n.jobs.map Jb.cs), .int .i64 n.rid, .int .i64 n.jobId, .slice 1 (n.draws.map u64Row), .slice 8 (n.results.map Rs.cs)]] = some (.bool (greatN n), []) := by
  rw [fn_text Tryz.func10 rfl rfl Tryz.results10 fq10.1 rfl rfl (by kernel_rfl)]
  have hme1 := h.me.n
  have hme2 := h.me.t
  obtain ⟨h1, h2, h3, h4, h5, h6, h7, h8, h9, h10, h11, h12, h13, h14, h15, h16, h17, h18, h19, h20⟩ := h
  rcases Bool.eq_false_or_eq_true (greatE n.me) with b1 | b1
  · simp -implicitDefEqProofs -dsimp +contextual (maxSteps := 9999999) (disch := first | omega | simp only [go_sem] <;> omega | refine ib ?_; kernel_rfl) only [go_sem, seval, ↓reduceIte, b1]
    simp [greatN, b1]
  by_cases b2 : 300 < n.psk.length
  · simp -implicitDefEqProofs -dsimp +contextual (maxSteps := 9999999) (disch := first | omega | simp only [go_sem] <;> omega | refine ib ?_; kernel_rfl) only [go_sem, seval, ↓reduceIte, b1, b2]
    simp [greatN, b2]
  by_cases b3 : 300 < n.gateK.length
  · simp -implicitDefEqProofs -dsimp +contextual (maxSteps := 9999999) (disch := first | omega | simp only [go_sem] <;> omega | refine ib ?_; kernel_rfl) only [go_sem, seval, ↓reduceIte, b1, b2, b3]
    simp [greatN, b3]
  rcases Bool.eq_false_or_eq_true (greatPs n.pred) with b4 | b4
  · simp -implicitDefEqProofs -dsimp +contextual (maxSteps := 9999999) (disch := first | omega | simp only [go_sem] <;> omega | refine ib ?_; kernel_rfl) only [go_sem, seval, ↓reduceIte, b1, b2, b3, b4, h5]
    simp [greatN, b4]
  rcases Bool.eq_false_or_eq_true (greatPs n.list) with b5 | b5
  · simp -implicitDefEqProofs -dsimp +contextual (maxSteps := 9999999) (disch := first | omega | simp only [go_sem] <;> omega | refine ib ?_; kernel_rfl) only [go_sem, seval, ↓reduceIte, b1, b2, b3, b4, b5, h5, h7]
    simp [greatN, b5]
  by_cases b6 : 70 < n.fingers.length
  · simp -implicitDefEqProofs -dsimp +contextual (maxSteps := 9999999) (disch := first | omega | simp only [go_sem] <;> omega | refine ib ?_; kernel_rfl) only [go_sem, seval, ↓reduceIte, b1, b2, b3, b4, b5, b6, h5, h7]
    simp [greatN, b6]
  rcases Bool.eq_false_or_eq_true (greatSs n.sessions) with b7 | b7
  · simp -implicitDefEqProofs -dsimp +contextual (maxSteps := 9999999) (disch := first | omega | simp only [go_sem] <;> omega | refine ib ?_; kernel_rfl) only [go_sem, seval, ↓reduceIte, b1, b2, b3, b4, b5, b6, b7, h5, h7, h11]
    simp [greatN, b7]
  rcases Bool.eq_false_or_eq_true (greatPds n.pends) with b8 | b8
  · simp -implicitDefEqProofs -dsimp +contextual (maxSteps := 9999999) (disch := first | omega | simp only [go_sem] <;> omega | refine ib ?_; kernel_rfl) only [go_sem, seval, ↓reduceIte, b1, b2, b3, b4, b5, b6, b7, b8, h5, h7, h11, h13]
    simp [greatN, b8]
  rcases Bool.eq_false_or_eq_true (greatIs n.items) with b9 | b9
  · simp -implicitDefEqProofs -dsimp +contextual (maxSteps := 9999999) (disch := first | omega | simp only [go_sem] <;> omega | refine ib ?_; kernel_rfl) only [go_sem, seval, ↓reduceIte, b1, b2, b3, b4, b5, b6, b7, b8, b9, h5, h7, h11, h13, h15]
    simp [greatN, b9]
  by_cases b10 : 20 < n.jobs.length
  · simp -implicitDefEqProofs -dsimp +contextual (maxSteps := 9999999) (disch := first | omega | simp only [go_sem] <;> omega | refine ib ?_; kernel_rfl) only [go_sem, seval, ↓reduceIte, b1, b2, b3, b4, b5, b6, b7, b8, b9, b10, h5, h7, h11, h13, h15]
    simp [greatN, b10]
  by_cases b11 : 60 < n.draws.length
  · simp -implicitDefEqProofs -dsimp +contextual (maxSteps := 9999999) (disch := first | omega | simp only [go_sem] <;> omega | refine ib ?_; kernel_rfl) only [go_sem, seval, ↓reduceIte, b1, b2, b3, b4, b5, b6, b7, b8, b9, b10, b11, h5, h7, h11, h13, h15]
    simp [greatN, b11]
  by_cases b12 : 40 < n.results.length
  · simp -implicitDefEqProofs -dsimp +contextual (maxSteps := 9999999) (disch := first | omega | simp only [go_sem] <;> omega | refine ib ?_; kernel_rfl) only [go_sem, seval, ↓reduceIte, b1, b2, b3, b4, b5, b6, b7, b8, b9, b10, b11, b12, h5, h7, h11, h13, h15]
    simp [greatN, b12]
  simp -implicitDefEqProofs -dsimp +contextual (maxSteps := 9999999) (disch := first | omega | simp only [go_sem] <;> omega | refine ib ?_; kernel_rfl) only [go_sem, seval, ↓reduceIte, b1, b2, b3, b4, b5, b6, b7, b8, b9, b10, b11, b12, h5, h7, h11, h13, h15]
  refine kFor n.fingers.length (fun i f H => f 1 = .ptr 101 1 0 0 ∧ f 3 = .int .i64 (i : Nat) ∧ H 101 = ⟨1, .live, 22, [n.cs], false⟩ ∧ (n.fingers.take i).any (fun x => greatE x.p.e) = false) ?_ ?_ ⟨rfl, rfl, rfl, rfl⟩
  · rintro i f H hi ⟨f1, f3, hH, ha⟩ ih
    have k1 := (h9 _ (List.getElem_mem hi)).l.n
    have k2 := (h9 _ (List.getElem_mem hi)).l.t
    simp -implicitDefEqProofs -dsimp +contextual (maxSteps := 9999999) (disch := first | omega | simp only [go_sem] <;> omega | refine ib ?_; kernel_rfl) only [go_sem, seval, ↓reduceIte, f1, f3, hH, hi, Nd.cs]
    (repeat' (refine kD_intro (fun _ => ?_) (fun _ => ?_)))
    · rename_i g; simp [greatN, any_at (p := fun x : Fg => greatE x.p.e) hi g]
    · rename_i g; exact ih _ _ ⟨f1, rfl, hH, any_take hi ha (by simpa using g)⟩
  rintro f H ⟨f1, f3, hH, ha⟩
  simp -implicitDefEqProofs -dsimp +contextual (maxSteps := 9999999) (disch := first | omega | simp only [go_sem] <;> omega | refine ib ?_; kernel_rfl) only [go_sem, seval, ↓reduceIte, f1, f3, hH, Nd.cs]
  have a1 := any_end ha
  refine kFor n.jobs.length (fun i f H => f 1 = .ptr 101 1 0 0 ∧ f 4 = .int .i64 (i : Nat) ∧ H 101 = ⟨1, .live, 22, [n.cs], false⟩ ∧ (n.jobs.take i).any greatJ = false) ?_ ?_ ⟨f1, rfl, hH, rfl⟩
  · rintro i f H hi ⟨f1, f4, hH, ha⟩ ih
    obtain ⟨k1, k2, ⟨k3, k4⟩, ⟨k5, k6⟩, ⟨k7, k8⟩, k9, k10⟩ := h17 _ (List.getElem_mem hi)
    have big : greatJ n.jobs[i] = true → greatN n = true := fun g => by simp [greatN, any_at hi g]
    by_cases c1 : 300 < n.jobs[i].key.length
    · simp -implicitDefEqProofs -dsimp +contextual (maxSteps := 9999999) (disch := first | omega | simp only [go_sem] <;> omega | refine ib ?_; kernel_rfl) only [go_sem, seval, ↓reduceIte, f1, f4, hH, hi, Nd.cs, c1]
      rw [big (by simp [greatJ, c1])]
    by_cases c2 : 300 < n.jobs[i].val.length
    · simp -implicitDefEqProofs -dsimp +contextual (maxSteps := 9999999) (disch := first | omega | simp only [go_sem] <;> omega | refine ib ?_; kernel_rfl) only [go_sem, seval, ↓reduceIte, f1, f4, hH, hi, Nd.cs, c1, c2]
      rw [big (by simp [greatJ, c2])]
    by_cases c3 : 300 < n.jobs[i].item.k.length
    · simp -implicitDefEqProofs -dsimp +contextual (maxSteps := 9999999) (disch := first | omega | simp only [go_sem] <;> omega | refine ib ?_; kernel_rfl) only [go_sem, seval, ↓reduceIte, f1, f4, hH, hi, Nd.cs, c1, c2, c3]
      rw [big (by simp [greatJ, c3])]
    by_cases c4 : 300 < n.jobs[i].item.v.length
    · simp -implicitDefEqProofs -dsimp +contextual (maxSteps := 9999999) (disch := first | omega | simp only [go_sem] <;> omega | refine ib ?_; kernel_rfl) only [go_sem, seval, ↓reduceIte, f1, f4, hH, hi, Nd.cs, c1, c2, c3, c4]
      rw [big (by simp [greatJ, c4])]
    rcases Bool.eq_false_or_eq_true (greatE n.jobs[i].owner) with c5 | c5
    · simp -implicitDefEqProofs -dsimp +contextual (maxSteps := 9999999) (disch := first | omega | simp only [go_sem] <;> omega | refine ib ?_; kernel_rfl) only [go_sem, seval, ↓reduceIte, f1, f4, hH, hi, Nd.cs, c1, c2, c3, c4, c5]
      rw [big (by simp [greatJ, c5])]
    rcases Bool.eq_false_or_eq_true (greatE n.jobs[i].back) with c6 | c6
    · simp -implicitDefEqProofs -dsimp +contextual (maxSteps := 9999999) (disch := first | omega | simp only [go_sem] <;> omega | refine ib ?_; kernel_rfl) only [go_sem, seval, ↓reduceIte, f1, f4, hH, hi, Nd.cs, c1, c2, c3, c4, c5, c6]
      rw [big (by simp [greatJ, c6])]
    by_cases c7 : 30 < n.jobs[i].asked.length
    · simp -implicitDefEqProofs -dsimp +contextual (maxSteps := 9999999) (disch := first | omega | simp only [go_sem] <;> omega | refine ib ?_; kernel_rfl) only [go_sem, seval, ↓reduceIte, f1, f4, hH, hi, Nd.cs, c1, c2, c3, c4, c5, c6, c7]
      rw [big (by simp [greatJ, c7])]
    simp -implicitDefEqProofs -dsimp +contextual (maxSteps := 9999999) (disch := first | omega | simp only [go_sem] <;> omega | refine ib ?_; kernel_rfl) only [go_sem, seval, ↓reduceIte, f1, f4, hH, hi, Nd.cs, c1, c2, c3, c4, c5, c6, c7]
    refine kFor n.jobs[i].asked.length (fun k f H => f 1 = .ptr 101 1 0 0 ∧ f 4 = .int .i64 (i : Nat) ∧ f 6 = .int .i64 (k : Nat) ∧ H 101 = ⟨1, .live, 22, [n.cs], false⟩ ∧ (∃ g, f 5 = .ptr 105 g 0 0 ∧ H 105 = ⟨g, .live, 29, [n.jobs[i].cs], false⟩) ∧ (n.jobs[i].asked.take k).any (fun a => decide (1000 < a.length)) = false) ?_ ?_ ⟨f1, f4, rfl, by simp [Heap.set, hH], ⟨_, rfl, rfl⟩, rfl⟩
    · rintro k f H hk ⟨f1, f4, f6, hH, ⟨g, f5, hG⟩, hb⟩ ih2
      have q1 := k10 _ (List.getElem_mem hk)
      simp -implicitDefEqProofs -dsimp +contextual (maxSteps := 9999999) (disch := first | omega | simp only [go_sem] <;> omega | refine ib ?_; kernel_rfl) only [go_sem, seval, ↓reduceIte, f1, f4, f5, f6, hH, hG, hk, hi]
      (repeat' (refine kD_intro (fun _ => ?_) (fun _ => ?_)))
      · rename_i g'; rw [big (by simp [greatJ, any_at (p := fun a : List UInt8 => decide (1000 < a.length)) hk (by simpa using g')])]
      · rename_i g'; exact ih2 _ _ ⟨f1, f4, rfl, hH, ⟨g, f5, hG⟩, any_take hk hb (by simpa using g')⟩
    · rintro f H ⟨f1, f4, f6, hH, ⟨g, f5, hG⟩, hb⟩
      simp -implicitDefEqProofs -dsimp +contextual (maxSteps := 9999999) (disch := first | omega | simp only [go_sem] <;> omega | refine ib ?_; kernel_rfl) only [go_sem, seval, ↓reduceIte, f1, f4, f5, f6, hH, hG, hi]
      exact ih _ _ ⟨f1, rfl, hH, any_take hi ha (by simp [greatJ, c1, c2, c3, c4, c5, c6, c7, any_end hb])⟩
  rintro f H ⟨f1, f4, hH, ha⟩
  simp -implicitDefEqProofs -dsimp +contextual (maxSteps := 9999999) (disch := first | omega | simp only [go_sem] <;> omega | refine ib ?_; kernel_rfl) only [go_sem, seval, ↓reduceIte, f1, f4, hH, Nd.cs]
  have a2 := any_end ha
  refine kFor n.results.length (fun i f H => f 1 = .ptr 101 1 0 0 ∧ f 7 = .int .i64 (i : Nat) ∧ H 101 = ⟨1, .live, 22, [n.cs], false⟩ ∧ (n.results.take i).any resG = false) ?_ ?_ ⟨f1, rfl, hH, rfl⟩
  · rintro i f H hi ⟨f1, f7, hH, ha⟩ ih
    have k1 := (h20 _ (List.getElem_mem hi)).k
    have k2 := (h20 _ (List.getElem_mem hi)).v
    have big : resG n.results[i] = true → greatN n = true := fun g => by
      have := any_at hi g
      unfold resG at this
      simp [greatN, this]
    simp -implicitDefEqProofs -dsimp +contextual (maxSteps := 9999999) (disch := first | omega | simp only [go_sem] <;> omega | refine ib ?_; kernel_rfl) only [go_sem, seval, ↓reduceIte, f1, f7, hH, hi, Nd.cs]
    (repeat' (refine kD_intro (fun _ => ?_) (fun _ => ?_)))
    · rename_i g; rw [big (by simp [resG, g])]
    · rename_i g g'; rw [big (by simp [resG, g'])]
    · rename_i g g'; exact ih _ _ ⟨f1, rfl, hH, any_take hi ha (by simp [resG]; omega)⟩
  rintro f H ⟨f1, f7, hH, ha⟩
  simp -implicitDefEqProofs -dsimp +contextual (maxSteps := 9999999) (disch := first | omega | simp only [go_sem] <;> omega | refine ib ?_; kernel_rfl) only [go_sem, seval, ↓reduceIte, f1, f7, hH, Nd.cs]
  have a3 := any_end ha
  unfold resG at a3
  simp [greatN, b1, b2, b3, b4, b5, b6, b7, b8, b9, b10, b11, b12, a1, a2, a3]
theorem Shs_split : ∀ {a b : List Shp} {xs : List AVal}, Shs (a ++ b) xs → ∃ x y, xs = x ++ y ∧ Shs a x ∧ Shs b y
  | [], _, xs, h => ⟨[], xs, rfl, rfl, h⟩
  | c :: a, b, xs, h => by
    simp only [List.cons_append, Shs] at h
    obtain ⟨v, as', rfl, h1, h2⟩ := h
    obtain ⟨x, y, rfl, h3, h4⟩ := Shs_split h2
    exact ⟨v :: x, y, rfl, by simp only [Shs]; exact ⟨v, x, rfl, h1, h3⟩, h4⟩
theorem rdU {z : Int} (h : (Lit.int .u64 z).wf = true) : ∃ n : Nat, z = (n : Int) ∧ n ≤ 18446744073709551615 := by
  have h := wf_u64 h
  obtain ⟨n, rfl⟩ := Int.eq_ofNat_of_zero_le h.1
  exact ⟨n, rfl, by omega⟩
theorem rdStr {xs : List AVal} (h : Shs [.s] xs) : ∃ l : List UInt8, xs = strRow l ∧ l.length ≤ 9223372036854775807 := by
  simp only [Shs, Sh] at h
  obtain ⟨_, _, rfl, ⟨l, rfl, hl⟩, rfl⟩ := h
  exact ⟨l, rfl, hl⟩
theorem rdNat {xs : List AVal} (h : Shs [.i .u64] xs) : ∃ n : Nat, xs = u64Row n ∧ n ≤ 18446744073709551615 := by
  simp only [Shs, Sh] at h
  obtain ⟨_, _, rfl, ⟨z, rfl, hz⟩, rfl⟩ := h
  obtain ⟨n, rfl, hn⟩ := rdU hz
  exact ⟨n, rfl, hn⟩
structure Wn.ok (x : Wn) : Prop where
  top : I64 x.top
  low : U64 x.low
  high : U64 x.high
def Wn.cs (x : Wn) : List AVal := [.int .i64 x.top, .int .u64 (x.low : Int), .int .u64 (x.high : Int)]
def shEn : List Shp := [.s, .i .u64, .i .i64, .i .i64, .i .i64, .s]
theorem rdEn {xs : List AVal} (h : Shs shEn xs) : ∃ x : En, xs = x.cs ∧ x.ok ∧ x.fit := by
  unfold shEn at h
  have p0 := h
  simp only [Shs, Sh] at p0
  obtain ⟨_, _, rfl, ⟨v_name, rfl, t_name⟩, _, _, rfl, ⟨v_id, rfl, k_id⟩, _, _, rfl, ⟨v_fr, rfl, k_fr⟩, _, _, rfl, ⟨v_un, rfl, k_un⟩, _, _, rfl, ⟨v_ix, rfl, k_ix⟩, _, _, rfl, ⟨v_tag, rfl, t_tag⟩, rfl⟩ := p0
  obtain ⟨v_id, rfl, u_id⟩ := rdU k_id
  have k_fr := wf_i64 k_fr
  have k_un := wf_i64 k_un
  have k_ix := wf_i64 k_ix
  exact ⟨⟨v_name, v_id, v_fr, v_un, v_ix, v_tag⟩, rfl, ⟨u_id, k_fr.1, k_fr.2, k_un.1, k_un.2, k_ix.1, k_ix.2⟩, ⟨t_name, t_tag⟩⟩
def shPr : List Shp := shEn ++ [.i .i64, .i .i64]
theorem rdPr {xs : List AVal} (h : Shs shPr xs) : ∃ x : Pr, xs = x.cs ∧ x.ok ∧ x.fit := by
  unfold shPr at h
  obtain ⟨x1, y1, rfl, p0, p1⟩ := Shs_split h
  obtain ⟨v_e, rfl, k_e, t_e⟩ := rdEn p0
  simp only [Shs, Sh] at p1
  obtain ⟨_, _, rfl, ⟨v_since, rfl, k_since⟩, _, _, rfl, ⟨v_under, rfl, k_under⟩, rfl⟩ := p1
  have k_since := wf_i64 k_since
  have k_under := wf_i64 k_under
  exact ⟨⟨v_e, v_since, v_under⟩, rfl, ⟨k_e, k_since.1, k_since.2, k_under.1, k_under.2⟩, ⟨t_e⟩⟩
def shFg : List Shp := [.i .i64] ++ shPr
theorem rdFg {xs : List AVal} (h : Shs shFg xs) : ∃ x : Fg, xs = x.cs ∧ x.ok ∧ x.p.fit := by
  unfold shFg at h
  obtain ⟨x1, y1, rfl, p0, p1⟩ := Shs_split h
  simp only [Shs, Sh] at p0
  obtain ⟨_, _, rfl, ⟨v_bit, rfl, k_bit⟩, rfl⟩ := p0
  have k_bit := wf_i64 k_bit
  obtain ⟨v_p, rfl, k_p, t_p⟩ := rdPr p1
  exact ⟨⟨v_bit, v_p⟩, rfl, ⟨k_bit, k_p⟩, t_p⟩
def shIt : List Shp := [.s, .s, .i .i64, .b]
theorem rdIt {xs : List AVal} (h : Shs shIt xs) : ∃ x : It, xs = x.cs ∧ x.ok ∧ x.fit := by
  unfold shIt at h
  have p0 := h
  simp only [Shs, Sh] at p0
  obtain ⟨_, _, rfl, ⟨v_k, rfl, t_k⟩, _, _, rfl, ⟨v_v, rfl, t_v⟩, _, _, rfl, ⟨v_n, rfl, k_n⟩, _, _, rfl, ⟨v_g, rfl⟩, rfl⟩ := p0
  have k_n := wf_i64 k_n
  exact ⟨⟨v_k, v_v, v_n, v_g⟩, rfl, ⟨k_n⟩, ⟨t_k, t_v⟩⟩
def shWn : List Shp := [.i .i64, .i .u64, .i .u64]
theorem rdWn {xs : List AVal} (h : Shs shWn xs) : ∃ x : Wn, xs = x.cs ∧ x.ok ∧ True := by
  unfold shWn at h
  have p0 := h
  simp only [Shs, Sh] at p0
  obtain ⟨_, _, rfl, ⟨v_top, rfl, k_top⟩, _, _, rfl, ⟨v_low, rfl, k_low⟩, _, _, rfl, ⟨v_high, rfl, k_high⟩, rfl⟩ := p0
  have k_top := wf_i64 k_top
  obtain ⟨v_low, rfl, u_low⟩ := rdU k_low
  obtain ⟨v_high, rfl, u_high⟩ := rdU k_high
  exact ⟨⟨v_top, v_low, v_high⟩, rfl, ⟨k_top, u_low, u_high⟩, trivial⟩
def shSe : List Shp := [.i .u64, .i .u64] ++ shEn ++ [.i .i64, .i .i64, .s, .s, .i .i64, .i .i64, .i .i64, .i .i64] ++ shWn ++ [.i .i64]
theorem rdSe {xs : List AVal} (h : Shs shSe xs) : ∃ x : Se, xs = x.cs ∧ x.ok ∧ x.fit := by
  unfold shSe at h
  obtain ⟨x4, y4, rfl, h4, p4⟩ := Shs_split h
  obtain ⟨x3, y3, rfl, h3, p3⟩ := Shs_split h4
  obtain ⟨x2, y2, rfl, h2, p2⟩ := Shs_split h3
  obtain ⟨x1, y1, rfl, p0, p1⟩ := Shs_split h2
  simp only [Shs, Sh] at p0
  obtain ⟨_, _, rfl, ⟨v_id, rfl, k_id⟩, _, _, rfl, ⟨v_nonce, rfl, k_nonce⟩, rfl⟩ := p0
  obtain ⟨v_id, rfl, u_id⟩ := rdU k_id
  obtain ⟨v_nonce, rfl, u_nonce⟩ := rdU k_nonce
  obtain ⟨v_peer, rfl, k_peer, t_peer⟩ := rdEn p1
  simp only [Shs, Sh] at p2
  obtain ⟨_, _, rfl, ⟨v_role, rfl, k_role⟩, _, _, rfl, ⟨v_state, rfl, k_state⟩, _, _, rfl, ⟨v_send, rfl, t_send⟩, _, _, rfl, ⟨v_hear, rfl, t_hear⟩, _, _, rfl, ⟨v_epoch, rfl, k_epoch⟩, _, _, rfl, ⟨v_count, rfl, k_count⟩, _, _, rfl, ⟨v_since, rfl, k_since⟩, _, _, rfl, ⟨v_seq, rfl, k_seq⟩, rfl⟩ := p2
  have k_role := wf_i64 k_role
  have k_state := wf_i64 k_state
  have k_epoch := wf_i64 k_epoch
  have k_count := wf_i64 k_count
  have k_since := wf_i64 k_since
  have k_seq := wf_i64 k_seq
  obtain ⟨v_seen, rfl, k_seen, t_seen⟩ := rdWn p3
  simp only [Shs, Sh] at p4
  obtain ⟨_, _, rfl, ⟨v_used, rfl, k_used⟩, rfl⟩ := p4
  have k_used := wf_i64 k_used
  exact ⟨⟨v_id, v_nonce, v_peer, v_role, v_state, v_send, v_hear, v_epoch, v_count, v_since, v_seq, v_seen, v_used⟩, rfl, ⟨u_id, u_nonce, k_peer, k_role, k_state, k_epoch, k_count, k_since, k_seq, k_seen.top, k_seen.low, k_seen.high, k_used⟩, ⟨t_peer, t_send, t_hear⟩⟩
def shMs : List Shp := [.i .i64, .i .i64, .i .i64, .i .i64, .i .u64, .b, .b, .s, .s, .sl 6 shEn, .sl 4 shIt]
theorem rdMs {xs : List AVal} (h : Shs shMs xs) : ∃ x : Ms, xs = x.cs ∧ x.ok ∧ x.fit := by
  unfold shMs at h
  have p0 := h
  simp only [Shs, Sh] at p0
  obtain ⟨_, _, rfl, ⟨v_kind, rfl, k_kind⟩, _, _, rfl, ⟨v_rid, rfl, k_rid⟩, _, _, rfl, ⟨v_ver, rfl, k_ver⟩, _, _, rfl, ⟨v_err, rfl, k_err⟩, _, _, rfl, ⟨v_id, rfl, k_id⟩, _, _, rfl, ⟨v_has, rfl⟩, _, _, rfl, ⟨v_gone, rfl⟩, _, _, rfl, ⟨v_key, rfl, t_key⟩, _, _, rfl, ⟨v_val, rfl, t_val⟩, _, _, rfl, ⟨v_ents, rfl, n_ents, r_ents⟩, _, _, rfl, ⟨v_items, rfl, n_items, r_items⟩, rfl⟩ := p0
  have k_kind := wf_i64 k_kind
  have k_rid := wf_i64 k_rid
  have k_ver := wf_i64 k_ver
  have k_err := wf_i64 k_err
  obtain ⟨v_id, rfl, u_id⟩ := rdU k_id
  obtain ⟨v_ents, rfl, q_ents⟩ := rows_map En.cs (fun x => x.ok ∧ x.fit) (fun r hr => rdEn (r_ents r hr))
  rw [List.length_map] at n_ents
  obtain ⟨v_items, rfl, q_items⟩ := rows_map It.cs (fun x => x.ok ∧ x.fit) (fun r hr => rdIt (r_items r hr))
  rw [List.length_map] at n_items
  exact ⟨⟨v_kind, v_rid, v_ver, v_err, v_id, v_has, v_gone, v_key, v_val, v_ents, v_items⟩, rfl, ⟨k_kind, k_rid, k_ver, k_err, u_id, fun x hx => (q_ents x hx).1, fun x hx => (q_items x hx).1⟩, ⟨t_key, t_val, n_ents, n_items, fun x hx => (q_ents x hx).2, fun x hx => (q_items x hx).2⟩⟩
def shPd : List Shp := [.i .i64, .i .i64, .i .i64, .i .i64, .i .i64, .i .u64] ++ shEn ++ shMs
theorem rdPd {xs : List AVal} (h : Shs shPd xs) : ∃ x : Pd, xs = x.cs ∧ x.ok ∧ x.fit := by
  unfold shPd at h
  obtain ⟨x2, y2, rfl, h2, p2⟩ := Shs_split h
  obtain ⟨x1, y1, rfl, p0, p1⟩ := Shs_split h2
  simp only [Shs, Sh] at p0
  obtain ⟨_, _, rfl, ⟨v_rid, rfl, k_rid⟩, _, _, rfl, ⟨v_why, rfl, k_why⟩, _, _, rfl, ⟨v_job, rfl, k_job⟩, _, _, rfl, ⟨v_til, rfl, k_til⟩, _, _, rfl, ⟨v_tries, rfl, k_tries⟩, _, _, rfl, ⟨v_session, rfl, k_session⟩, rfl⟩ := p0
  have k_rid := wf_i64 k_rid
  have k_why := wf_i64 k_why
  have k_job := wf_i64 k_job
  have k_til := wf_i64 k_til
  have k_tries := wf_i64 k_tries
  obtain ⟨v_session, rfl, u_session⟩ := rdU k_session
  obtain ⟨v_to, rfl, k_to, t_to⟩ := rdEn p1
  obtain ⟨v_m, rfl, k_m, t_m⟩ := rdMs p2
  exact ⟨⟨v_rid, v_why, v_job, v_til, v_tries, v_session, v_to, v_m⟩, rfl, ⟨k_rid, k_why, k_job, k_til, k_tries, u_session, k_to, k_m⟩, ⟨t_to, t_m⟩⟩
def shJb : List Shp := [.i .i64, .i .i64, .i .i64, .i .i64, .i .i64, .i .i64, .s, .s] ++ shEn ++ shIt ++ [.i .i64, .i .i64, .sl 1 [.s]] ++ shEn ++ [.i .i64, .i .i64]
theorem rdJb {xs : List AVal} (h : Shs shJb xs) : ∃ x : Jb, xs = x.cs ∧ x.ok ∧ x.fit := by
  unfold shJb at h
  obtain ⟨x5, y5, rfl, h5, p5⟩ := Shs_split h
  obtain ⟨x4, y4, rfl, h4, p4⟩ := Shs_split h5
  obtain ⟨x3, y3, rfl, h3, p3⟩ := Shs_split h4
  obtain ⟨x2, y2, rfl, h2, p2⟩ := Shs_split h3
  obtain ⟨x1, y1, rfl, p0, p1⟩ := Shs_split h2
  simp only [Shs, Sh] at p0
  obtain ⟨_, _, rfl, ⟨v_id, rfl, k_id⟩, _, _, rfl, ⟨v_kind, rfl, k_kind⟩, _, _, rfl, ⟨v_phase, rfl, k_phase⟩, _, _, rfl, ⟨v_hops, rfl, k_hops⟩, _, _, rfl, ⟨v_tries, rfl, k_tries⟩, _, _, rfl, ⟨v_til, rfl, k_til⟩, _, _, rfl, ⟨v_key, rfl, t_key⟩, _, _, rfl, ⟨v_val, rfl, t_val⟩, rfl⟩ := p0
  have k_id := wf_i64 k_id
  have k_kind := wf_i64 k_kind
  have k_phase := wf_i64 k_phase
  have k_hops := wf_i64 k_hops
  have k_tries := wf_i64 k_tries
  have k_til := wf_i64 k_til
  obtain ⟨v_owner, rfl, k_owner, t_owner⟩ := rdEn p1
  obtain ⟨v_item, rfl, k_item, t_item⟩ := rdIt p2
  simp only [Shs, Sh] at p3
  obtain ⟨_, _, rfl, ⟨v_acks, rfl, k_acks⟩, _, _, rfl, ⟨v_waits, rfl, k_waits⟩, _, _, rfl, ⟨v_asked, rfl, n_asked, r_asked⟩, rfl⟩ := p3
  have k_acks := wf_i64 k_acks
  have k_waits := wf_i64 k_waits
  obtain ⟨v_asked, rfl, t_asked⟩ := rows_map strRow (fun l => l.length ≤ 9223372036854775807) (fun r hr => rdStr (r_asked r hr))
  rw [List.length_map] at n_asked
  obtain ⟨v_back, rfl, k_back, t_back⟩ := rdEn p4
  simp only [Shs, Sh] at p5
  obtain ⟨_, _, rfl, ⟨v_backRid, rfl, k_backRid⟩, _, _, rfl, ⟨v_backJob, rfl, k_backJob⟩, rfl⟩ := p5
  have k_backRid := wf_i64 k_backRid
  have k_backJob := wf_i64 k_backJob
  exact ⟨⟨v_id, v_kind, v_phase, v_hops, v_tries, v_til, v_key, v_val, v_owner, v_item, v_acks, v_waits, v_asked, v_back, v_backRid, v_backJob⟩, rfl, ⟨k_id, k_kind, k_phase, k_hops, k_tries, k_til, k_owner, k_item, k_acks, k_waits, k_back, k_backRid, k_backJob⟩, ⟨t_key, t_val, t_item, t_owner, t_back, n_asked, t_asked⟩⟩
def shRs : List Shp := [.i .i64, .i .i64, .i .i64, .s, .s, .b, .b, .i .i64]
theorem rdRs {xs : List AVal} (h : Shs shRs xs) : ∃ x : Rs, xs = x.cs ∧ x.ok ∧ x.fit := by
  unfold shRs at h
  have p0 := h
  simp only [Shs, Sh] at p0
  obtain ⟨_, _, rfl, ⟨v_job, rfl, k_job⟩, _, _, rfl, ⟨v_kind, rfl, k_kind⟩, _, _, rfl, ⟨v_ver, rfl, k_ver⟩, _, _, rfl, ⟨v_key, rfl, t_key⟩, _, _, rfl, ⟨v_val, rfl, t_val⟩, _, _, rfl, ⟨v_has, rfl⟩, _, _, rfl, ⟨v_gone, rfl⟩, _, _, rfl, ⟨v_err, rfl, k_err⟩, rfl⟩ := p0
  have k_job := wf_i64 k_job
  have k_kind := wf_i64 k_kind
  have k_ver := wf_i64 k_ver
  have k_err := wf_i64 k_err
  exact ⟨⟨v_job, v_kind, v_ver, v_key, v_val, v_has, v_gone, v_err⟩, rfl, ⟨k_job.1, k_job.2, k_kind.1, k_kind.2, k_ver.1, k_ver.2, k_err.1, k_err.2⟩, ⟨t_key, t_val⟩⟩
def shNd : List Shp := shEn ++ [.i .i64, .s, .i .i64, .s, .b, .sl 8 shPr, .sl 8 shPr, .sl 9 shFg, .sl 20 shSe, .sl 23 shPd, .sl 4 shIt, .sl 29 shJb, .i .i64, .i .i64, .sl 1 [.i .u64], .sl 8 shRs]
theorem rdNd {xs : List AVal} (h : Shs shNd xs) : ∃ x : Nd, xs = x.cs ∧ x.ok ∧ x.fit := by
  unfold shNd at h
  obtain ⟨x1, y1, rfl, p0, p1⟩ := Shs_split h
  obtain ⟨v_me, rfl, k_me, t_me⟩ := rdEn p0
  simp only [Shs, Sh] at p1
  obtain ⟨_, _, rfl, ⟨v_clock, rfl, k_clock⟩, _, _, rfl, ⟨v_psk, rfl, t_psk⟩, _, _, rfl, ⟨v_gateI, rfl, k_gateI⟩, _, _, rfl, ⟨v_gateK, rfl, t_gateK⟩, _, _, rfl, ⟨v_ready, rfl⟩, _, _, rfl, ⟨v_pred, rfl, n_pred, r_pred⟩, _, _, rfl, ⟨v_list, rfl, n_list, r_list⟩, _, _, rfl, ⟨v_fingers, rfl, n_fingers, r_fingers⟩, _, _, rfl, ⟨v_sessions, rfl, n_sessions, r_sessions⟩, _, _, rfl, ⟨v_pends, rfl, n_pends, r_pends⟩, _, _, rfl, ⟨v_items, rfl, n_items, r_items⟩, _, _, rfl, ⟨v_jobs, rfl, n_jobs, r_jobs⟩, _, _, rfl, ⟨v_rid, rfl, k_rid⟩, _, _, rfl, ⟨v_jobId, rfl, k_jobId⟩, _, _, rfl, ⟨v_draws, rfl, n_draws, r_draws⟩, _, _, rfl, ⟨v_results, rfl, n_results, r_results⟩, rfl⟩ := p1
  have k_clock := wf_i64 k_clock
  have k_gateI := wf_i64 k_gateI
  obtain ⟨v_pred, rfl, q_pred⟩ := rows_map Pr.cs (fun x => x.ok ∧ x.fit) (fun r hr => rdPr (r_pred r hr))
  rw [List.length_map] at n_pred
  obtain ⟨v_list, rfl, q_list⟩ := rows_map Pr.cs (fun x => x.ok ∧ x.fit) (fun r hr => rdPr (r_list r hr))
  rw [List.length_map] at n_list
  obtain ⟨v_fingers, rfl, q_fingers⟩ := rows_map Fg.cs (fun x => x.ok ∧ x.p.fit) (fun r hr => rdFg (r_fingers r hr))
  rw [List.length_map] at n_fingers
  obtain ⟨v_sessions, rfl, q_sessions⟩ := rows_map Se.cs (fun x => x.ok ∧ x.fit) (fun r hr => rdSe (r_sessions r hr))
  rw [List.length_map] at n_sessions
  obtain ⟨v_pends, rfl, q_pends⟩ := rows_map Pd.cs (fun x => x.ok ∧ x.fit) (fun r hr => rdPd (r_pends r hr))
  rw [List.length_map] at n_pends
  obtain ⟨v_items, rfl, q_items⟩ := rows_map It.cs (fun x => x.ok ∧ x.fit) (fun r hr => rdIt (r_items r hr))
  rw [List.length_map] at n_items
  obtain ⟨v_jobs, rfl, q_jobs⟩ := rows_map Jb.cs (fun x => x.ok ∧ x.fit) (fun r hr => rdJb (r_jobs r hr))
  rw [List.length_map] at n_jobs
  have k_rid := wf_i64 k_rid
  have k_jobId := wf_i64 k_jobId
  obtain ⟨v_draws, rfl, k_draws⟩ := rows_map u64Row U64 (fun r hr => rdNat (r_draws r hr))
  rw [List.length_map] at n_draws
  obtain ⟨v_results, rfl, q_results⟩ := rows_map Rs.cs (fun x => x.ok ∧ x.fit) (fun r hr => rdRs (r_results r hr))
  rw [List.length_map] at n_results
  exact ⟨⟨v_me, v_clock, v_psk, v_gateI, v_gateK, v_ready, v_pred, v_list, v_fingers, v_sessions, v_pends, v_items, v_jobs, v_rid, v_jobId, v_draws, v_results⟩, rfl, ⟨k_me, k_clock, k_gateI, fun x hx => (q_pred x hx).1, fun x hx => (q_list x hx).1, fun x hx => (q_fingers x hx).1, fun x hx => (q_sessions x hx).1, fun x hx => (q_pends x hx).1, fun x hx => (q_items x hx).1, fun x hx => (q_jobs x hx).1, k_rid, k_jobId, k_draws, fun x hx => (q_results x hx).1⟩, ⟨t_me, t_psk, t_gateK, n_pred, fun x hx => (q_pred x hx).2, n_list, fun x hx => (q_list x hx).2, n_fingers, fun x hx => (q_fingers x hx).2, n_sessions, fun x hx => (q_sessions x hx).2, n_pends, fun x hx => (q_pends x hx).2, n_items, fun x hx => (q_items x hx).2, n_jobs, fun x hx => (q_jobs x hx).2, n_draws, n_results, fun x hx => (q_results x hx).2⟩⟩
end Go.Proofs.YtnpkhdjgedeppaaGreatDoor
