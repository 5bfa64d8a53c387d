import Derived.Test.YtmfcabokoijcdaaTCop15
namespace Go.Proofs.Ytmfcabokoijcdaa
open Go.Am
set_option linter.unusedSimpArgs false
set_option linter.unusedVariables false
set_option maxRecDepth 100000
/-! The document's comparers: messages, requests, acts, jobs, nodes. -/
theorem Ms.eq_iff (x y : Ms) : x = y ↔ x.kind = y.kind ∧ x.rid = y.rid ∧ x.ver = y.ver ∧ x.err = y.err ∧ x.id = y.id ∧ x.has = y.has ∧ x.gone = y.gone ∧ x.key = y.key ∧ x.val = y.val ∧ x.ents = y.ents ∧ x.items = y.items := by
  cases x; cases y; simp
theorem Pd.eq_iff (x y : Pd) : x = y ↔ x.rid = y.rid ∧ x.why = y.why ∧ x.job = y.job ∧ x.til = y.til ∧ x.tries = y.tries ∧ x.session = y.session ∧ x.to = y.to ∧ x.m = y.m := by
  cases x; cases y; simp
theorem Jb.eq_iff (x y : Jb) : x = y ↔ x.asked = y.asked ∧ (x.id = y.id ∧ x.kind = y.kind ∧ x.phase = y.phase ∧ x.hops = y.hops ∧ x.tries = y.tries ∧ x.til = y.til ∧ x.key = y.key ∧ x.val = y.val) ∧ x.owner = y.owner ∧ x.item = y.item ∧ x.acks = y.acks ∧ x.waits = y.waits ∧ x.back = y.back ∧ x.backRid = y.backRid ∧ x.backJob = y.backJob :=
  ⟨fun h => by subst h; simp, fun h => by cases x; cases y; simp_all⟩
set_option maxHeartbeats 4000000 in
@[go_sem] theorem e59 (a b : Ms) (h1 : a.ents.length ≤ 9223372036854775807) (h2 : a.items.length ≤ 9223372036854775807) : fn C 59 [] [.agg [.int .i64 a.kind, .int .i64 a.rid, .int .i64 a.ver, .int .i64 a.err, .int .u64 (a.id : Int), .bool a.has, .bool a.gone, .str a.key, .str a.val, .slice 6 (a.ents.map En.cs), .slice 4 (a.items.map It.cs)], .agg [.int .i64 b.kind, .int .i64 b.rid, .int .i64 b.ver, .int .i64 b.err, .int .u64 (b.id : Int), .bool b.has, .bool b.gone, .str b.key, .str b.val, .slice 6 (b.ents.map En.cs), .slice 4 (b.items.map It.cs)]] = some (.bool (decide (a = b)), []) := by
  rw [fn_text Try.func59 rfl rfl Try.results59 fq59.1 rfl rfl (by kernel_rfl)]
  simp -implicitDefEqProofs -dsimp +contextual (maxSteps := 9999999) (disch := first | omega | simp only [go_sem] <;> omega | refine ib ?_; kernel_rfl) only [go_sem, seval, ↓reduceIte]
  (repeat' (refine kD_intro (fun _ => ?_) (fun _ => ?_))) <;> exact Res_bool (by simp [Ms.eq_iff, *])

set_option maxHeartbeats 4000000 in
@[go_sem] theorem e86 (a b : Pd) (h1 : a.m.ents.length ≤ 9223372036854775807) (h2 : a.m.items.length ≤ 9223372036854775807) : fn C 86 [] [.agg [.int .i64 a.rid, .int .i64 a.why, .int .i64 a.job, .int .i64 a.til, .int .i64 a.tries, .int .u64 (a.session : Int), .str a.to.name, .int .u64 (a.to.id : Int), .int .i64 a.to.fr, .int .i64 a.to.un, .int .i64 a.to.ix, .str a.to.tag, .int .i64 a.m.kind, .int .i64 a.m.rid, .int .i64 a.m.ver, .int .i64 a.m.err, .int .u64 (a.m.id : Int), .bool a.m.has, .bool a.m.gone, .str a.m.key, .str a.m.val, .slice 6 (a.m.ents.map En.cs), .slice 4 (a.m.items.map It.cs)], .agg [.int .i64 b.rid, .int .i64 b.why, .int .i64 b.job, .int .i64 b.til, .int .i64 b.tries, .int .u64 (b.session : Int), .str b.to.name, .int .u64 (b.to.id : Int), .int .i64 b.to.fr, .int .i64 b.to.un, .int .i64 b.to.ix, .str b.to.tag, .int .i64 b.m.kind, .int .i64 b.m.rid, .int .i64 b.m.ver, .int .i64 b.m.err, .int .u64 (b.m.id : Int), .bool b.m.has, .bool b.m.gone, .str b.m.key, .str b.m.val, .slice 6 (b.m.ents.map En.cs), .slice 4 (b.m.items.map It.cs)]] = some (.bool (decide (a = b)), []) := by
  rw [fn_text Try.func86 rfl rfl Try.results86 fq86.1 rfl rfl (by kernel_rfl)]
  simp -implicitDefEqProofs -dsimp +contextual (maxSteps := 9999999) (disch := first | omega | simp only [go_sem] <;> omega | refine ib ?_; kernel_rfl) only [go_sem, seval, ↓reduceIte, e59 a.m b.m h1 h2]
  (repeat' (refine kD_intro (fun _ => ?_) (fun _ => ?_))) <;> exact Res_bool (by simp [Pd.eq_iff, En.eq_iff, *])

set_option maxHeartbeats 4000000 in
@[go_sem] theorem e54 (a b : List Pd) (hl : a.length ≤ 9223372036854775807) (hf : ∀ x ∈ a, x.fit) : fn C 54 [] [.slice 23 (a.map Pd.cs), .slice 23 (b.map Pd.cs)] = some (.bool (decide (a = b)), []) := by
  rw [fn_text Try.func54 rfl rfl Try.results54 fq54.1 rfl rfl (by kernel_rfl)]
  simp -implicitDefEqProofs -dsimp +contextual (maxSteps := 9999999) (disch := first | omega | simp only [go_sem] <;> omega | refine ib ?_; kernel_rfl) only [go_sem, seval, ↓reduceIte]
  (repeat' (refine kD_intro (fun _ => ?_) (fun _ => ?_)))
  · rename_i h1
    refine (kLoop_rec (fun i f H => f 0 = .slice 23 (a.map Pd.cs) ∧ f 1 = .slice 23 (b.map Pd.cs) ∧ f 5 = .int .i64 (i : Nat) ∧ H = Heap.nil ∧ i ≤ a.length ∧ a.take i = b.take i) (fun i => a.length - i) (fun i => some (.bool (decide (a = b)), [])) ?_ 0 _ _ ⟨rfl, rfl, rfl, rfl, by omega, rfl⟩).trans rfl
    rintro i f _ ⟨h0, h2, h5, rfl, hi, ht⟩ ih
    by_cases hl : i < a.length
    · have hb : i < b.length := by omega
      have ff := (hf _ (List.getElem_mem hl)).m
      have one := e86 a[i] b[i] ff.e ff.i
      by_cases e : a[i] = b[i]
      · rw [decide_eq_true e] at one
        simp -implicitDefEqProofs -dsimp +contextual (maxSteps := 9999999) (disch := first | omega | simp only [go_sem] <;> omega | refine ib ?_; kernel_rfl) only [go_sem, seval, ↓reduceIte, h0, h2, h5, hl, hb, h1, one]
        exact ih (i + 1) _ _ ⟨h0, h2, rfl, rfl, by omega, take_eq_step hl hb ht e⟩ (by omega)
      · rw [decide_eq_false e] at one
        simp -implicitDefEqProofs -dsimp +contextual (maxSteps := 9999999) (disch := first | omega | simp only [go_sem] <;> omega | refine ib ?_; kernel_rfl) only [go_sem, seval, ↓reduceIte, h0, h2, h5, hl, hb, h1, one]
        rw [decide_eq_false (take_ne hl hb e)]
    · simp -implicitDefEqProofs -dsimp +contextual (maxSteps := 9999999) (disch := first | omega | simp only [go_sem] <;> omega | refine ib ?_; kernel_rfl) only [go_sem, seval, ↓reduceIte, h0, h2, h5, hl]
      obtain rfl : i = a.length := by omega
      rw [decide_eq_true (take_eq_end h1 ht)]
  · rename_i h1
    rw [decide_eq_false (fun e : a = b => h1 (by rw [e]))]

set_option maxHeartbeats 4000000 in
@[go_sem] theorem e15 (a b : List Ac) (hl : a.length ≤ 9223372036854775807) (hf : ∀ x ∈ a, x.m.fit) : fn C 15 [] [.slice 20 (a.map Ac.cs), .slice 20 (b.map Ac.cs)] = some (.bool (decide (a = b)), []) := by
  rw [fn_text Try.func15 rfl rfl Try.results15 fq15.1 rfl rfl (by kernel_rfl)]
  simp -implicitDefEqProofs -dsimp +contextual (maxSteps := 9999999) (disch := first | omega | simp only [go_sem] <;> omega | refine ib ?_; kernel_rfl) only [go_sem, seval, ↓reduceIte]
  (repeat' (refine kD_intro (fun _ => ?_) (fun _ => ?_)))
  · rename_i h1
    refine (kLoop_rec (fun i f H => f 0 = .slice 20 (a.map Ac.cs) ∧ f 1 = .slice 20 (b.map Ac.cs) ∧ f 5 = .int .i64 (i : Nat) ∧ H = Heap.nil ∧ i ≤ a.length ∧ a.take i = b.take i) (fun i => a.length - i) (fun i => some (.bool (decide (a = b)), [])) ?_ 0 _ _ ⟨rfl, rfl, rfl, rfl, by omega, rfl⟩).trans rfl
    rintro i f _ ⟨h0, h2, h5, rfl, hi, ht⟩ ih
    by_cases hl : i < a.length
    · have hb : i < b.length := by omega
      have ff := hf _ (List.getElem_mem hl)
      have one := e59 a[i].m b[i].m ff.e ff.i
      simp -implicitDefEqProofs -dsimp +contextual (maxSteps := 9999999) (disch := first | omega | simp only [go_sem] <;> omega | refine ib ?_; kernel_rfl) only [go_sem, seval, ↓reduceIte, h0, h2, h5, hl, hb, h1, one]
      (repeat' (refine kD_intro (fun _ => ?_) (fun _ => ?_))) <;> first
        | (refine ih (i + 1) _ _ ⟨h0, h2, rfl, rfl, by omega, take_eq_step hl hb ht ((Ac.eq_iff _ _).2 (by simp [En.eq_iff, *]))⟩ (by omega))
        | (rw [decide_eq_false (take_ne hl hb (fun e => by simp_all))])
    · simp -implicitDefEqProofs -dsimp +contextual (maxSteps := 9999999) (disch := first | omega | simp only [go_sem] <;> omega | refine ib ?_; kernel_rfl) only [go_sem, seval, ↓reduceIte, h0, h2, h5, hl]
      obtain rfl : i = a.length := by omega
      rw [decide_eq_true (take_eq_end h1 ht)]
  · rename_i h1
    rw [decide_eq_false (fun e : a = b => h1 (by rw [e]))]

end Go.Proofs.Ytmfcabokoijcdaa
namespace Go.Proofs.Ytmfcabokoijcdaa
open Go.Am
set_option linter.unusedSimpArgs false
set_option linter.unusedVariables false
set_option maxRecDepth 100000
/-! The document's comparers: jobs. -/
theorem asked_row (l : List (List UInt8)) (i : Nat) (h : i < l.length) : (l.map strRow)[i]? = some [.str l[i]] := by
  rw [List.getElem?_map, List.getElem?_eq_getElem h]; rfl
def jobAs (j : Jb) (f : Nat → AVal) (H : Heap) : Prop := f 6 = .ptr 106 (H 106).gen 0 0 ∧ H 106 = ⟨(H 106).gen, .live, 29, [[.int .i64 j.id, .int .i64 j.kind, .int .i64 j.phase, .int .i64 j.hops, .int .i64 j.tries, .int .i64 j.til, .str j.key, .str j.val, .str j.owner.name, .int .u64 (j.owner.id : Int), .int .i64 j.owner.fr, .int .i64 j.owner.un, .int .i64 j.owner.ix, .str j.owner.tag, .str j.item.k, .str j.item.v, .int .i64 j.item.n, .bool j.item.g, .int .i64 j.acks, .int .i64 j.waits, .slice 1 (j.asked.map strRow), .str j.back.name, .int .u64 (j.back.id : Int), .int .i64 j.back.fr, .int .i64 j.back.un, .int .i64 j.back.ix, .str j.back.tag, .int .i64 j.backRid, .int .i64 j.backJob]], false⟩
set_option maxHeartbeats 8000000 in
@[go_sem] theorem e56 (a b : List Jb) (hl : a.length ≤ 9223372036854775807) (hf : ∀ x ∈ a, x.asked.length ≤ 9223372036854775807) : fn C 56 [] [.slice 29 (a.map Jb.cs), .slice 29 (b.map Jb.cs)] = some (.bool (decide (a = b)), []) := by
  rw [fn_text Try.func56 rfl rfl Try.results56 fq56.1 rfl rfl (by kernel_rfl)]
  simp -implicitDefEqProofs -dsimp +contextual (maxSteps := 9999999) (disch := first | omega | simp only [go_sem] <;> omega | refine ib ?_; kernel_rfl) only [go_sem, seval, ↓reduceIte]
  (repeat' (refine kD_intro (fun _ => ?_) (fun _ => ?_)))
  · rename_i h1
    refine (kLoop_rec (fun i f H => f 0 = .slice 29 (a.map Jb.cs) ∧ f 1 = .slice 29 (b.map Jb.cs) ∧ f 5 = .int .i64 (i : Nat) ∧ i ≤ a.length ∧ a.take i = b.take i) (fun i => a.length - i) (fun i => some (.bool (decide (a = b)), [])) ?_ 0 _ _ ⟨rfl, rfl, rfl, by omega, rfl⟩).trans rfl
    rintro i f H ⟨h0, h2, h5, hi, ht⟩ ih
    by_cases hl : i < a.length
    · have hb : i < b.length := by omega
      have ff := hf _ (List.getElem_mem hl)
      have r1 := jb_row a i hl
      have r2 := jb_row b i hb
      by_cases hk : a[i].asked.length = b[i].asked.length
      · simp -implicitDefEqProofs -dsimp +contextual (maxSteps := 9999999) (disch := first | omega | simp only [go_sem] <;> omega | refine ib ?_; kernel_rfl) only [go_sem, seval, ↓reduceIte, h0, h2, h5, hl, hb, h1, r1, r2, hk]
        refine (kLoop_rec (fun k f' H' => f' 0 = .slice 29 (a.map Jb.cs) ∧ f' 1 = .slice 29 (b.map Jb.cs) ∧ f' 5 = .int .i64 (i : Nat) ∧ f' 8 = .int .i64 (k : Nat) ∧ f' 6 = .ptr 106 ((H 106).gen + 1) 0 0 ∧ f' 7 = .ptr 107 ((H 107).gen + 1) 0 0 ∧ k ≤ a[i].asked.length ∧ a[i].asked.take k = b[i].asked.take k ∧
          H' 106 = ⟨(H 106).gen + 1, .live, 29, [[.int .i64 a[i].id, .int .i64 a[i].kind, .int .i64 a[i].phase, .int .i64 a[i].hops, .int .i64 a[i].tries, .int .i64 a[i].til, .str a[i].key, .str a[i].val, .str a[i].owner.name, .int .u64 (a[i].owner.id : Int), .int .i64 a[i].owner.fr, .int .i64 a[i].owner.un, .int .i64 a[i].owner.ix, .str a[i].owner.tag, .str a[i].item.k, .str a[i].item.v, .int .i64 a[i].item.n, .bool a[i].item.g, .int .i64 a[i].acks, .int .i64 a[i].waits, .slice 1 (a[i].asked.map strRow), .str a[i].back.name, .int .u64 (a[i].back.id : Int), .int .i64 a[i].back.fr, .int .i64 a[i].back.un, .int .i64 a[i].back.ix, .str a[i].back.tag, .int .i64 a[i].backRid, .int .i64 a[i].backJob]], false⟩ ∧ H' 107 = ⟨(H 107).gen + 1, .live, 29, [[.int .i64 b[i].id, .int .i64 b[i].kind, .int .i64 b[i].phase, .int .i64 b[i].hops, .int .i64 b[i].tries, .int .i64 b[i].til, .str b[i].key, .str b[i].val, .str b[i].owner.name, .int .u64 (b[i].owner.id : Int), .int .i64 b[i].owner.fr, .int .i64 b[i].owner.un, .int .i64 b[i].owner.ix, .str b[i].owner.tag, .str b[i].item.k, .str b[i].item.v, .int .i64 b[i].item.n, .bool b[i].item.g, .int .i64 b[i].acks, .int .i64 b[i].waits, .slice 1 (b[i].asked.map strRow), .str b[i].back.name, .int .u64 (b[i].back.id : Int), .int .i64 b[i].back.fr, .int .i64 b[i].back.un, .int .i64 b[i].back.ix, .str b[i].back.tag, .int .i64 b[i].backRid, .int .i64 b[i].backJob]], false⟩) (fun k => a[i].asked.length - k) (fun _ => some (.bool (decide (a = b)), [])) ?_ 0 _ _ (by exact ⟨h0, h2, h5, rfl, rfl, rfl, by omega, rfl, by simp [Heap.set], by simp [Heap.set]⟩)).trans rfl
        rintro k f' H' ⟨g0, g1, g5, g8, g6, g7, hk2, ha, H1, H2⟩ ih2
        by_cases hkl : k < a[i].asked.length
        · have hkb : k < b[i].asked.length := by omega
          have q1 := asked_row a[i].asked k hkl
          have q2 := asked_row b[i].asked k hkb
          by_cases e : a[i].asked[k] = b[i].asked[k]
          · simp -implicitDefEqProofs -dsimp +contextual (maxSteps := 9999999) (disch := first | omega | simp only [go_sem] <;> omega | refine ib ?_; kernel_rfl) only [go_sem, seval, ↓reduceIte, g0, g1, g5, g6, g7, g8, H1, H2, hk, hkl, hkb, q1, q2, e]
            exact ih2 (k + 1) _ _ ⟨g0, g1, g5, rfl, g6, g7, by omega, take_eq_step hkl hkb ha e, H1, H2⟩ (by omega)
          · simp -implicitDefEqProofs -dsimp +contextual (maxSteps := 9999999) (disch := first | omega | simp only [go_sem] <;> omega | refine ib ?_; kernel_rfl) only [go_sem, seval, ↓reduceIte, g0, g1, g5, g6, g7, g8, H1, H2, hk, hkl, hkb, q1, q2, e]
            rw [decide_eq_false (take_ne hl hb (fun e' => e (by simp [e'])))]
        · obtain rfl : k = a[i].asked.length := by omega
          clear ih2
          have hask := take_eq_end hk ha
          simp -implicitDefEqProofs -dsimp +contextual (maxSteps := 9999999) (disch := first | omega | simp only [go_sem] <;> omega | refine ib ?_; kernel_rfl) only [go_sem, seval, ↓reduceIte, g0, g1, g5, g6, g7, g8, H1, H2, hk]
          (repeat' (refine kD_intro (fun _ => ?_) (fun _ => ?_))) <;> first
            | (refine ih (i + 1) _ _ ⟨g0, g1, rfl, by omega, take_eq_step hl hb ht ((Jb.eq_iff _ _).2 (by simp [En.eq_iff, It.eq_iff, *]))⟩ (by omega))
            | (rw [decide_eq_false (take_ne hl hb (fun e => by simp_all))])
      · simp -implicitDefEqProofs -dsimp +contextual (maxSteps := 9999999) (disch := first | omega | simp only [go_sem] <;> omega | refine ib ?_; kernel_rfl) only [go_sem, seval, ↓reduceIte, h0, h2, h5, hl, hb, h1, r1, r2, hk]
        rw [decide_eq_false (take_ne hl hb (fun e => hk (by rw [e])))]
    · simp -implicitDefEqProofs -dsimp +contextual (maxSteps := 9999999) (disch := first | omega | simp only [go_sem] <;> omega | refine ib ?_; kernel_rfl) only [go_sem, seval, ↓reduceIte, h0, h2, h5, hl]
      obtain rfl : i = a.length := by omega
      rw [decide_eq_true (take_eq_end h1 ht)]
  · rename_i h1
    rw [decide_eq_false (fun e : a = b => h1 (by rw [e]))]

end Go.Proofs.Ytmfcabokoijcdaa
namespace Go.Proofs.Ytmfcabokoijcdaa
open Go.Am
set_option linter.unusedSimpArgs false
set_option linter.unusedVariables false
set_option maxRecDepth 100000
/-! Layer 29: the configuration of the statements. -/
def jId (j : Jb) : Jb := { jbZ with id := j.id, kind := j.kind }
def jRow (r : List AVal) : Jb := match r with | .int _ a :: .int _ b :: _ => { jbZ with id := a, kind := b } | _ => jbZ
def itRow (r : List AVal) : It := match r with | [.str k, .str v, .int _ n, .bool g] => ⟨k, v, n, g⟩ | _ => zeroIt
def rowsA (v : AVal) (i : Nat) : List (List AVal) := match v with | .agg cs => (match cs[i]? with | some (.slice _ rows) => rows | _ => []) | _ => []
def intA (v : AVal) (i : Nat) : Int := match v with | .agg cs => (match cs[i]? with | some (.int _ n) => n | _ => 0) | _ => 0
def ndZ : Nd := ⟨enZ, 0, [], 0, [], false, [], [], [], [], [], [], [], 0, 0, [], []⟩
def ndA (v : AVal) : Nd := { ndZ with items := (rowsA v 16).map itRow, jobs := (rowsA v 17).map jRow, jobId := intA v 19 }
def gmM (ds : List AVal) : Int := match ds with | v :: .int _ id :: _ => copR (ndA v).jobs id | _ => -1
def gmB (ds : List AVal) : Int := match ds with
  | v :: .str k :: .str x :: .bool g :: _ => if beginE (ndA v) k x g = 0 then
      (if copR (begunR (ndA v) k x g enZ 0 0).jobs (nextI (ndA v).jobId) = ((ndA v).jobs.length : Int) then -2 else copR (begunR (ndA v) k x g enZ 0 0).jobs (nextI (ndA v).jobId)) else -1
  | _ => -1
/-- Where a job is hangs on its number and kind. -/
theorem placeG_map {α β : Type} (f : α → β) (q : β → Bool) (l : List α) : placeG q (l.map f) = placeG (fun a => q (f a)) l := by
  unfold placeG
  rw [List.findIdx_map, List.length_map]
  rfl
theorem copR_map (f : Jb → Jb) (h1 : ∀ j, (f j).id = j.id) (h2 : ∀ j, (f j).kind = j.kind) (l : List Jb) (id : Int) : copR (l.map f) id = copR l id := by
  have e : findR (l.map f) id = findR l id := by
    unfold findR
    rw [placeG_map]
    congr 1
    funext j
    simp [jobAt, h1]
  unfold copR
  rw [e]
  rcases findR_cases l id with ⟨i, hi, _, _, hf⟩ | ⟨_, hf⟩
  · have e2 : (jobG (l.map f) (findR l id).toNat).kind = (jobG l (findR l id).toNat).kind := by
      rw [hf, Int.toNat_natCast, jobG_at hi, jobG_at (by simpa using hi), List.getElem_map, h2]
    rw [e2]
  · rw [hf]; simp
theorem jRow_map (l : List Jb) : (l.map Jb.cs).map jRow = l.map jId := by
  rw [List.map_map]; rfl
theorem itRow_map (l : List It) : (l.map It.cs).map itRow = l := by
  rw [List.map_map]
  exact List.map_id l
theorem gmM_eq (n : Nd) (id : Int) (rest : List AVal) : gmM ((.agg [.str n.me.name, .int .u64 (n.me.id : Int), .int .i64 n.me.fr, .int .i64 n.me.un, .int .i64 n.me.ix, .str n.me.tag, .int .i64 n.clock, .str n.psk, .int .i64 n.gateI, .str n.gateK, .bool n.ready, .slice 8 (n.pred.map Pr.cs), .slice 8 (n.list.map Pr.cs), .slice 9 (n.fingers.map Fg.cs), .slice 20 (n.sessions.map Se.cs), .slice 23 (n.pends.map Pd.cs), .slice 4 (n.items.map It.cs), .slice 29 (n.jobs.map Jb.cs), .int .i64 n.rid, .int .i64 n.jobId, .slice 1 (n.draws.map u64Row), .slice 8 (n.results.map Rs.cs)]) :: .int .i64 id :: rest) = copR n.jobs id := by
  show copR ((n.jobs.map Jb.cs).map jRow) id = _
  rw [jRow_map]
  exact copR_map jId (fun _ => rfl) (fun _ => rfl) _ _
theorem gmB_eq (n : Nd) (k x : List UInt8) (g : Bool) (back : En) (rid job : Int) (rest : List AVal) : gmB ((.agg [.str n.me.name, .int .u64 (n.me.id : Int), .int .i64 n.me.fr, .int .i64 n.me.un, .int .i64 n.me.ix, .str n.me.tag, .int .i64 n.clock, .str n.psk, .int .i64 n.gateI, .str n.gateK, .bool n.ready, .slice 8 (n.pred.map Pr.cs), .slice 8 (n.list.map Pr.cs), .slice 9 (n.fingers.map Fg.cs), .slice 20 (n.sessions.map Se.cs), .slice 23 (n.pends.map Pd.cs), .slice 4 (n.items.map It.cs), .slice 29 (n.jobs.map Jb.cs), .int .i64 n.rid, .int .i64 n.jobId, .slice 1 (n.draws.map u64Row), .slice 8 (n.results.map Rs.cs)]) :: .str k :: .str x :: .bool g :: rest) =
    if beginE n k x g = 0 then (if copR (begunR n k x g back rid job).jobs (nextI n.jobId) = (n.jobs.length : Int) then -2 else copR (begunR n k x g back rid job).jobs (nextI n.jobId)) else -1 := by
  have e0 : ndA (.agg [.str n.me.name, .int .u64 (n.me.id : Int), .int .i64 n.me.fr, .int .i64 n.me.un, .int .i64 n.me.ix, .str n.me.tag, .int .i64 n.clock, .str n.psk, .int .i64 n.gateI, .str n.gateK, .bool n.ready, .slice 8 (n.pred.map Pr.cs), .slice 8 (n.list.map Pr.cs), .slice 9 (n.fingers.map Fg.cs), .slice 20 (n.sessions.map Se.cs), .slice 23 (n.pends.map Pd.cs), .slice 4 (n.items.map It.cs), .slice 29 (n.jobs.map Jb.cs), .int .i64 n.rid, .int .i64 n.jobId, .slice 1 (n.draws.map u64Row), .slice 8 (n.results.map Rs.cs)]) = { ndZ with items := n.items, jobs := n.jobs.map jId, jobId := n.jobId } := by
    show ({ ndZ with items := (n.items.map It.cs).map itRow, jobs := (n.jobs.map Jb.cs).map jRow, jobId := n.jobId } : Nd) = _
    rw [itRow_map, jRow_map]
  show (if beginE (ndA (.agg [.str n.me.name, .int .u64 (n.me.id : Int), .int .i64 n.me.fr, .int .i64 n.me.un, .int .i64 n.me.ix, .str n.me.tag, .int .i64 n.clock, .str n.psk, .int .i64 n.gateI, .str n.gateK, .bool n.ready, .slice 8 (n.pred.map Pr.cs), .slice 8 (n.list.map Pr.cs), .slice 9 (n.fingers.map Fg.cs), .slice 20 (n.sessions.map Se.cs), .slice 23 (n.pends.map Pd.cs), .slice 4 (n.items.map It.cs), .slice 29 (n.jobs.map Jb.cs), .int .i64 n.rid, .int .i64 n.jobId, .slice 1 (n.draws.map u64Row), .slice 8 (n.results.map Rs.cs)])) k x g = 0 then _ else _) = _
  rw [e0]
  have e1 : beginE { ndZ with items := n.items, jobs := n.jobs.map jId, jobId := n.jobId } k x g = beginE n k x g := by
    unfold beginE; simp
  rw [e1]
  have e2 : copR (begunR { ndZ with items := n.items, jobs := n.jobs.map jId, jobId := n.jobId } k x g enZ 0 0).jobs (nextI n.jobId) = copR (begunR n k x g back rid job).jobs (nextI n.jobId) := by
    rw [← copR_map jId (fun _ => rfl) (fun _ => rfl), ← copR_map jId (fun _ => rfl) (fun _ => rfl) (begunR n k x g back rid job).jobs]
    congr 1
    simp [begunR, copyJ, jId, jbZ]
  simp only [e2, List.length_map]
noncomputable def own2 : Own := fun f => if f = 12 then some (fun ex ds => fn (C1 (gmB ds)) f ex ds) else if f = 23 then some (fun ex ds => fn (C1 (gmM ds)) f ex ds) else if f = 67 then some (fun ex ds => fn (C1 (gmM ds)) f ex ds)
  else if f ∈ [3, 4, 5, 6, 10, 20, 26] then none else some (fun ex ds => fn C f ex ds)
theorem own2_ok : OwnOk E own2 := by
  intro f g ex ds q hf hg
  unfold own2 at hf
  split at hf
  · simp only [Option.some.injEq] at hf
    subst hf
    exact fnE_sound mixed own1_ok hg
  · split at hf
    · simp only [Option.some.injEq] at hf
      subst hf
      exact fnE_sound mixed own1_ok hg
    · split at hf
      · simp only [Option.some.injEq] at hf
        subst hf
        exact fnE_sound mixed own1_ok hg
      · split at hf
        · cases hf
        · simp only [Option.some.injEq] at hf
          subst hf
          exact fnE_sound mixed own_ok hg
noncomputable def C2 : Cf := ⟨E, M, own2⟩
@[go_sem] theorem C2_E : C2.E = E := rfl
@[go_sem] theorem C2_M : C2.M = M := rfl
theorem c2_fn (f : FuncId) (h1 : f ≠ 12) (h2 : f ≠ 23) (h3 : f ≠ 67) (h4 : f ∉ [3, 4, 5, 6, 10, 20, 26]) (ex ds) : fn C2 f ex ds = fn C f ex ds :=
  fn_own (g := fun ex ds => fn C f ex ds) (by show own2 f = _; unfold own2; rw [if_neg h1, if_neg h2, if_neg h3, if_neg h4]) ex ds
@[go_sem] theorem c2_l29_Great (ex ds) : fn C2 7 ex ds = fn C 7 ex ds := c2_fn _ (by decide) (by decide) (by decide) (by decide) ex ds
@[go_sem] theorem c2_l29_Huge (ex ds) : fn C2 8 ex ds = fn C 8 ex ds := c2_fn _ (by decide) (by decide) (by decide) (by decide) ex ds
@[go_sem] theorem c2_l11_Great (ex ds) : fn C2 9 ex ds = fn C 9 ex ds := c2_fn _ (by decide) (by decide) (by decide) (by decide) ex ds
@[go_sem] theorem c2_copies_Copy (ex ds) : fn C2 11 ex ds = fn C 11 ex ds := c2_fn _ (by decide) (by decide) (by decide) (by decide) ex ds
@[go_sem] theorem c2_r29_Begin (ex ds) : fn C2 13 ex ds = fn C 13 ex ds := c2_fn _ (by decide) (by decide) (by decide) (by decide) ex ds
@[go_sem] theorem c2_r29_Same (ex ds) : fn C2 14 ex ds = fn C 14 ex ds := c2_fn _ (by decide) (by decide) (by decide) (by decide) ex ds
@[go_sem] theorem c2_r29_Acts (ex ds) : fn C2 15 ex ds = fn C 15 ex ds := c2_fn _ (by decide) (by decide) (by decide) (by decide) ex ds
@[go_sem] theorem c2_copies_Find (ex ds) : fn C2 16 ex ds = fn C 16 ex ds := c2_fn _ (by decide) (by decide) (by decide) (by decide) ex ds
@[go_sem] theorem c2_r29_Find (ex ds) : fn C2 17 ex ds = fn C 17 ex ds := c2_fn _ (by decide) (by decide) (by decide) (by decide) ex ds
@[go_sem] theorem c2_store_Put (ex ds) : fn C2 18 ex ds = fn C 18 ex ds := c2_fn _ (by decide) (by decide) (by decide) (by decide) ex ds
@[go_sem] theorem c2_store_Get (ex ds) : fn C2 19 ex ds = fn C 19 ex ds := c2_fn _ (by decide) (by decide) (by decide) (by decide) ex ds
@[go_sem] theorem c2_copies_Settle (ex ds) : fn C2 21 ex ds = fn C 21 ex ds := c2_fn _ (by decide) (by decide) (by decide) (by decide) ex ds
@[go_sem] theorem c2_r29_Settle (ex ds) : fn C2 22 ex ds = fn C 22 ex ds := c2_fn _ (by decide) (by decide) (by decide) (by decide) ex ds
@[go_sem] theorem c2_r29_More (ex ds) : fn C2 24 ex ds = fn C 24 ex ds := c2_fn _ (by decide) (by decide) (by decide) (by decide) ex ds
@[go_sem] theorem c2_r29_Taken (ex ds) : fn C2 25 ex ds = fn C 25 ex ds := c2_fn _ (by decide) (by decide) (by decide) (by decide) ex ds
@[go_sem] theorem c2_r29_Lost (ex ds) : fn C2 27 ex ds = fn C 27 ex ds := c2_fn _ (by decide) (by decide) (by decide) (by decide) ex ds
@[go_sem] theorem c2_copies_Late (ex ds) : fn C2 28 ex ds = fn C 28 ex ds := c2_fn _ (by decide) (by decide) (by decide) (by decide) ex ds
@[go_sem] theorem c2_r29_Late (ex ds) : fn C2 29 ex ds = fn C 29 ex ds := c2_fn _ (by decide) (by decide) (by decide) (by decide) ex ds
/-- What a node that begins, goes on, hears of an answer becomes. -/
theorem eBegin (n : Nd) (key val : List UInt8) (gone : Bool) (back : En) (rid job : Int) (h : n.mid 90000) (hk : key.length ≤ 9223372036854775807) (hc : 0 ≤ n.clock ∧ n.clock ≤ 1099511627776) :
    fn C2 12 [] [.agg [.str n.me.name, .int .u64 (n.me.id : Int), .int .i64 n.me.fr, .int .i64 n.me.un, .int .i64 n.me.ix, .str n.me.tag, .int .i64 n.clock, .str n.psk, .int .i64 n.gateI, .str n.gateK, .bool n.ready, .slice 8 (n.pred.map Pr.cs), .slice 8 (n.list.map Pr.cs), .slice 9 (n.fingers.map Fg.cs), .slice 20 (n.sessions.map Se.cs), .slice 23 (n.pends.map Pd.cs), .slice 4 (n.items.map It.cs), .slice 29 (n.jobs.map Jb.cs), .int .i64 n.rid, .int .i64 n.jobId, .slice 1 (n.draws.map u64Row), .slice 8 (n.results.map Rs.cs)], .str key, .str val, .bool gone, .agg [.str back.name, .int .u64 (back.id : Int), .int .i64 back.fr, .int .i64 back.un, .int .i64 back.ix, .str back.tag], .int .i64 rid, .int .i64 job] = ndRes (beginR n key val gone back rid job) := by
  rw [fn_own (g := fun ex ds => fn (C1 (gmB ds)) 12 ex ds) (by show own2 12 = _; unfold own2; rw [if_pos rfl])]
  rw [gmB_eq n key val gone back rid job]
  unfold beginR
  by_cases he : beginE n key val gone = 0
  · rw [if_pos he, if_pos he]
    have hlen : (begunR n key val gone back rid job).jobs.length = n.jobs.length + 1 := by simp [begunR]
    rcases copR_cases (begunR n key val gone back rid job).jobs (nextI n.jobId) with ⟨i, hi, hc1⟩ | hc1
    · rw [moreR_at hi hc1, hc1]
      by_cases hl : i = n.jobs.length
      · subst hl
        rw [if_pos rfl, eBeginA n key val gone back rid job h hk hc he hc1]
        have e : (begunR n key val gone back rid job).jobs[n.jobs.length] = copyJ n (putR n.items key val gone).2.1 back rid job := by simp [begunR]
        rw [e]
      · have hi' : i < n.jobs.length := by omega
        rw [if_neg (by omega), eBeginB n key val gone back rid job h hk hc he i hi' hc1]
        have e : (begunR n key val gone back rid job).jobs[i] = n.jobs[i] := List.getElem_append_left hi'
        rw [e]
    · rw [moreR_none hc1, hc1, if_neg (by omega)]
      exact eBeginN n key val gone back rid job h hk hc he hc1
  · rw [if_neg he, if_neg he]
    unfold tellR
    split
    · rename_i hj; subst hj; exact eBeginE0 n key val gone back rid 0 h hk hc he rfl
    · rename_i hj; exact eBeginE1 n key val gone back rid job h hk hc he hj
theorem eMore (n : Nd) (id : Int) (h : n.mid 100000) : fn C2 23 [] [.agg [.str n.me.name, .int .u64 (n.me.id : Int), .int .i64 n.me.fr, .int .i64 n.me.un, .int .i64 n.me.ix, .str n.me.tag, .int .i64 n.clock, .str n.psk, .int .i64 n.gateI, .str n.gateK, .bool n.ready, .slice 8 (n.pred.map Pr.cs), .slice 8 (n.list.map Pr.cs), .slice 9 (n.fingers.map Fg.cs), .slice 20 (n.sessions.map Se.cs), .slice 23 (n.pends.map Pd.cs), .slice 4 (n.items.map It.cs), .slice 29 (n.jobs.map Jb.cs), .int .i64 n.rid, .int .i64 n.jobId, .slice 1 (n.draws.map u64Row), .slice 8 (n.results.map Rs.cs)], .int .i64 id] = ndRes (moreR n id) := by
  rw [fn_own (g := fun ex ds => fn (C1 (gmM ds)) 23 ex ds) (by show own2 23 = _; unfold own2; rw [if_neg (by decide), if_pos rfl])]
  rw [gmM_eq n id]
  rcases copR_cases n.jobs id with ⟨i, hi, hc⟩ | hc
  · rw [moreR_at hi hc, hc]; exact eMore1 n id i hi hc h
  · rw [moreR_none hc, hc]; exact eMore0 n id hc h
theorem eCame (n : Nd) (id : Int) (t : Bool) (h : n.mid 100000) : fn C2 67 [] [.agg [.str n.me.name, .int .u64 (n.me.id : Int), .int .i64 n.me.fr, .int .i64 n.me.un, .int .i64 n.me.ix, .str n.me.tag, .int .i64 n.clock, .str n.psk, .int .i64 n.gateI, .str n.gateK, .bool n.ready, .slice 8 (n.pred.map Pr.cs), .slice 8 (n.list.map Pr.cs), .slice 9 (n.fingers.map Fg.cs), .slice 20 (n.sessions.map Se.cs), .slice 23 (n.pends.map Pd.cs), .slice 4 (n.items.map It.cs), .slice 29 (n.jobs.map Jb.cs), .int .i64 n.rid, .int .i64 n.jobId, .slice 1 (n.draws.map u64Row), .slice 8 (n.results.map Rs.cs)], .int .i64 id, .bool t] = ndRes (cameR n id t) := by
  rw [fn_own (g := fun ex ds => fn (C1 (gmM ds)) 67 ex ds) (by show own2 67 = _; unfold own2; rw [if_neg (by decide), if_neg (by decide), if_pos rfl])]
  rw [gmM_eq n id]
  unfold cameR
  rcases copR_cases n.jobs id with ⟨i, hi, hc⟩ | hc
  · rw [hc, if_pos (by omega), Int.toNat_natCast, jobG_at hi, moreR_at (i := i) (by simpa using hi) (cop_set (j := cameJ t n.jobs[i]) hi hc rfl rfl), moreFin_set]
    simp only [List.getElem_set_self]
    exact eCame1 n id t i hi hc h
  · rw [hc, if_neg (by omega)]; exact eCame0 n id t hc h

end Go.Proofs.Ytmfcabokoijcdaa
namespace Go.Proofs.Ytmfcabokoijcdaa
open Go.Am
set_option linter.unusedSimpArgs false
set_option linter.unusedVariables false
set_option maxRecDepth 100000
/-! What comes of a node can be compared. (Plain.) -/
structure Nd.cmp (n : Nd) : Prop where
  pl : n.pred.length ≤ 9223372036854775807
  ll : n.list.length ≤ 9223372036854775807
  fl : n.fingers.length ≤ 9223372036854775807
  sl : n.sessions.length ≤ 9223372036854775807
  dl : n.pends.length ≤ 9223372036854775807
  df : ∀ p ∈ n.pends, p.fit
  il : n.items.length ≤ 9223372036854775807
  jl : n.jobs.length ≤ 9223372036854775807
  ja : ∀ j ∈ n.jobs, j.asked.length ≤ 9223372036854775807
  wl : n.draws.length ≤ 9223372036854775807
  rl : n.results.length ≤ 9223372036854775807
theorem Nd.mid.cmp {n : Nd} {k : Nat} (h : n.mid k) (hk : k ≤ 9223372036854775807) (hd : ∀ p ∈ n.pends, p.fit) : n.cmp :=
  ⟨Nat.le_trans h.pl hk, Nat.le_trans h.ll hk, Nat.le_trans h.fl hk, Nat.le_trans h.sl hk, Nat.le_trans h.dl hk, hd, Nat.le_trans h.il hk, Nat.le_trans h.jl hk, fun j hj => Nat.le_trans (h.ja j hj) hk, Nat.le_trans h.wl hk, Nat.le_trans h.rl hk⟩
structure Nd.good (n : Nd) (k : Nat) : Prop where
  m : n.mid k
  d : ∀ p ∈ n.pends, p.fit
  j : ∀ j ∈ n.jobs, j.item.fit
def ActG (k : Nat) (l : List Ac) : Prop := l.length ≤ k ∧ ∀ a ∈ l, a.m.fit
theorem Nd.good.le {n : Nd} {k m : Nat} (h : n.good k) (hk : k ≤ m) : n.good m := ⟨h.m.le hk, h.d, h.j⟩
theorem ActG.le {l : List Ac} {k m : Nat} (h : ActG k l) (hk : k ≤ m) : ActG m l := ⟨Nat.le_trans h.1 hk, h.2⟩
theorem ActG.nil (k : Nat) : ActG k [] := ⟨Nat.zero_le _, fun a ha => by simp at ha⟩
theorem ActG.one {a : Ac} (h : a.m.fit) : ActG 1 [a] := ⟨Nat.le_refl _, fun b hb => by rw [List.mem_singleton] at hb; rw [hb]; exact h⟩
theorem ActG.app {a b : List Ac} {k m : Nat} (h1 : ActG k a) (h2 : ActG m b) : ActG (k + m) (a ++ b) :=
  ⟨by rw [List.length_append]; exact Nat.add_le_add h1.1 h2.1, fun x hx => by
    rcases List.mem_append.1 hx with hx | hx
    · exact h1.2 x hx
    · exact h2.2 x hx⟩
theorem doneA_fit (back : En) (rid : Int) (x : It) (e : Int) : (doneA back rid x e).m.fit :=
  ⟨Nat.zero_le _, Nat.zero_le _, Nat.zero_le _, Nat.zero_le _, fun e he => by simp [doneA, msZ] at he, fun x hx => by simp [doneA, msZ] at hx⟩
theorem copyA_fit (e : En) {x : It} (id : Int) (h : x.fit) : (copyA e x id).m.fit :=
  ⟨Nat.zero_le _, Nat.zero_le _, Nat.zero_le _, by show 1 ≤ 9223372036854775807; decide, fun e he => by simp [copyA, msZ] at he, fun y hy => by simp [copyA] at hy; rw [hy]; exact h⟩
theorem good_settle {n : Nd} {k : Nat} (id : Int) (x : It) (has : Bool) (e : Int) (h : n.good k) (hk : 16 ≤ k) : (settleR n id x has e).good k := by
  refine ⟨mid_settle id x has e h.m hk, ?_, ?_⟩
  · unfold settleR; split
    · exact h.d
    · exact h.d
  · unfold settleR; split
    · exact fun j hj => h.j j (List.mem_of_mem_eraseIdx hj)
    · exact h.j
theorem good_erase {n : Nd} {k : Nat} (i : Nat) (h : n.good k) : ({ n with jobs := n.jobs.eraseIdx i } : Nd).good k :=
  ⟨mid_erase i h.m, h.d, fun j hj => h.j j (List.mem_of_mem_eraseIdx hj)⟩
theorem good_set {n : Nd} {k : Nat} (i : Nat) (j : Jb) (h : n.good k) (ha : j.asked.length ≤ k) (hf : j.item.fit) : ({ n with jobs := n.jobs.set i j } : Nd).good k :=
  ⟨mid_set i j h.m ha, h.d, fun x hx => by
    rcases List.mem_or_eq_of_mem_set hx with hx | rfl
    · exact h.j x hx
    · exact hf⟩
theorem good_tell {n : Nd} {k : Nat} (back : En) (rid job : Int) (x : It) (has : Bool) (e : Int) (h : n.good k) (hk : 16 ≤ k) : (tellR n back rid job x has e).1.good k ∧ ActG 1 (tellR n back rid job x has e).2 := by
  unfold tellR; split
  · exact ⟨h, ActG.one (doneA_fit _ _ _ _)⟩
  · exact ⟨good_settle _ _ _ _ h hk, ActG.nil 1⟩
theorem askR_good (id : Int) : ∀ (l : List Pr) (j : Jb), j.item.fit → (askR id l j).1.asked.length ≤ j.asked.length + l.length ∧ (askR id l j).1.item = j.item ∧ ActG l.length (askR id l j).2
  | [], j, _ => ⟨Nat.le_refl _, rfl, ActG.nil 0⟩
  | p :: l, j, h => by
    unfold askR
    split
    · exact ⟨by simp, rfl, ActG.nil _⟩
    · split
      · have := askR_good id l j h
        exact ⟨Nat.le_trans this.1 (by simp), this.2.1, this.2.2.le (by simp)⟩
      · have := askR_good id l { j with waits := fewR j.waits + 1, asked := j.asked ++ [p.e.name] } h
        refine ⟨Nat.le_trans this.1 (by simp; omega), this.2.1, ?_⟩
        have := (ActG.one (copyA_fit p.e id h)).app this.2.2
        exact this.le (by simp; omega)
theorem good_moreFin {n : Nd} {k : Nat} (i : Nat) (id : Int) (j : Jb) (h : n.good k) (hk : 16 ≤ k) (ha : j.asked.length ≤ k) (hf : j.item.fit) : (moreFin n i (askR id n.list j)).1.good (k + k) ∧ ActG (k + 1) (moreFin n i (askR id n.list j)).2 := by
  have g := askR_good id n.list j hf
  have hl := h.m.ll
  unfold moreFin
  split
  · exact ⟨good_set i _ (h.le (by omega)) (Nat.le_trans g.1 (by omega)) (by rw [g.2.1]; exact hf), g.2.2.le (by omega)⟩
  · have t := good_tell (askR id n.list j).1.back (askR id n.list j).1.backRid (askR id n.list j).1.backJob (askR id n.list j).1.item (!(askR id n.list j).1.item.g) 0 (good_erase i h) hk
    exact ⟨t.1.le (by omega), (g.2.2.app t.2).le (by omega)⟩
theorem good_more {n : Nd} {k : Nat} (id : Int) (h : n.good k) (hk : 16 ≤ k) : (moreR n id).1.good (k + k) ∧ ActG (k + 1) (moreR n id).2 := by
  rcases copR_cases n.jobs id with ⟨i, hi, hc⟩ | hc
  · rw [moreR_at hi hc]
    exact good_moreFin i id _ h hk (h.m.ja _ (List.getElem_mem hi)) (h.j _ (List.getElem_mem hi))
  · rw [moreR_none hc]
    exact ⟨h.le (by omega), ActG.nil _⟩
theorem good_came {n : Nd} {k : Nat} (id : Int) (t : Bool) (h : n.good k) (hk : 16 ≤ k) : (cameR n id t).1.good (k + k) ∧ ActG (k + 1) (cameR n id t).2 := by
  unfold cameR
  rcases copR_cases n.jobs id with ⟨i, hi, hc⟩ | hc
  · rw [hc, if_pos (by omega), Int.toNat_natCast, jobG_at hi]
    exact good_more id (good_set i _ h (show n.jobs[i].asked.length ≤ k from h.m.ja _ (List.getElem_mem hi)) (show n.jobs[i].item.fit from h.j _ (List.getElem_mem hi))) hk
  · rw [hc, if_neg (by omega)]
    exact ⟨h.le (by omega), ActG.nil _⟩
theorem good_begun {n : Nd} {k : Nat} (key val : List UInt8) (gone : Bool) (back : En) (rid job : Int) (hk : key.length ≤ 9223372036854775807) (hv : val.length ≤ 9223372036854775807) (h : n.good k) (he : (putR n.items key val gone).2.2 = 0) : (begunR n key val gone back rid job).good (k + 1) := by
  refine ⟨mid_begun key val gone back rid job hk h.m, h.d, fun j hj => ?_⟩
  rcases List.mem_append.1 hj with hj | hj
  · exact h.j j hj
  · rw [List.mem_singleton] at hj
    rw [hj]
    show (putR n.items key val gone).2.1.fit
    unfold putR at he ⊢
    split
    · split
      · exact ⟨Nat.zero_le _, Nat.zero_le _⟩
      · split
        · exact ⟨Nat.zero_le _, Nat.zero_le _⟩
        · exact ⟨hk, by show (if gone = true then [] else val).length ≤ 9223372036854775807; split; exact Nat.zero_le _; exact hv⟩
    · exact ⟨Nat.zero_le _, Nat.zero_le _⟩
theorem good_begin {n : Nd} {k : Nat} (key val : List UInt8) (gone : Bool) (back : En) (rid job : Int) (hk : key.length ≤ 9223372036854775807) (hv : val.length ≤ 9223372036854775807) (h : n.good k) (hk2 : 16 ≤ k) : (beginR n key val gone back rid job).1.good (k + k + 2) ∧ ActG (k + 2) (beginR n key val gone back rid job).2 := by
  unfold beginR
  split
  · rename_i he
    have he : (putR n.items key val gone).2.2 = 0 := by
      unfold beginE at he; split at he
      · omega
      · exact he
    have g := good_more (nextI n.jobId) (good_begun key val gone back rid job hk hv h he) (by omega)
    exact ⟨g.1.le (by omega), g.2.le (by omega)⟩
  · have t := good_tell back rid job zeroIt false (beginE n key val gone) h hk2
    exact ⟨t.1.le (by omega), t.2.le (by omega)⟩
theorem good_late {k : Nat} (hk : 16 ≤ k) : ∀ (m : Nat) (n : Nd), n.good k → (lateF m n).1.good k ∧ ActG m (lateF m n).2
  | 0, n, h => ⟨h, ActG.nil 0⟩
  | m + 1, n, h => by
    unfold lateF
    split
    · have t := good_tell (jobG n.jobs (placeG (lateJ n.clock) n.jobs).toNat).back (jobG n.jobs (placeG (lateJ n.clock) n.jobs).toNat).backRid (jobG n.jobs (placeG (lateJ n.clock) n.jobs).toNat).backJob (jobG n.jobs (placeG (lateJ n.clock) n.jobs).toNat).item (!(jobG n.jobs (placeG (lateJ n.clock) n.jobs).toNat).item.g) 0 (good_erase (placeG (lateJ n.clock) n.jobs).toNat h) hk
      have r := good_late hk m _ t.1
      exact ⟨r.1, (t.2.app r.2).le (by omega)⟩
    · exact ⟨h, ActG.nil _⟩

end Go.Proofs.Ytmfcabokoijcdaa
namespace Go.Proofs.Ytmfcabokoijcdaa
open Go.Am
set_option linter.unusedSimpArgs false
set_option linter.unusedVariables false
set_option maxRecDepth 100000
/-! Nodes are alike. -/
@[go_sem] theorem eqGate (a a' : Int) (k k' : List UInt8) : eqF E.P 8 26 (.agg [.int .i64 a, .str k]) (.agg [.int .i64 a', .str k']) = some (decide (a = a' ∧ k = k')) := by
  have u2 : E.P.underlying 9 = _ := Try.underlying9
  have u3 : E.P.underlying 3 = _ := Try.underlying3
  have u7 : E.P.underlying 26 = _ := Try.underlying26
  have hq : E.P.stoodInHeld 26 = false := by kernel_rfl
  simp [eqF, eqGo, u2, u3, u7, hq, tq9.1, tq9.2.1, tq3.1, tq3.2.1, mkV, beq_dec, Bool.and_assoc, ← Bool.decide_and]

set_option maxHeartbeats 4000000 in
theorem eSame (n : Nd) (h : n.cmp) : fn C 14 [] [.agg [.str n.me.name, .int .u64 (n.me.id : Int), .int .i64 n.me.fr, .int .i64 n.me.un, .int .i64 n.me.ix, .str n.me.tag, .int .i64 n.clock, .str n.psk, .int .i64 n.gateI, .str n.gateK, .bool n.ready, .slice 8 (n.pred.map Pr.cs), .slice 8 (n.list.map Pr.cs), .slice 9 (n.fingers.map Fg.cs), .slice 20 (n.sessions.map Se.cs), .slice 23 (n.pends.map Pd.cs), .slice 4 (n.items.map It.cs), .slice 29 (n.jobs.map Jb.cs), .int .i64 n.rid, .int .i64 n.jobId, .slice 1 (n.draws.map u64Row), .slice 8 (n.results.map Rs.cs)], .agg [.str n.me.name, .int .u64 (n.me.id : Int), .int .i64 n.me.fr, .int .i64 n.me.un, .int .i64 n.me.ix, .str n.me.tag, .int .i64 n.clock, .str n.psk, .int .i64 n.gateI, .str n.gateK, .bool n.ready, .slice 8 (n.pred.map Pr.cs), .slice 8 (n.list.map Pr.cs), .slice 9 (n.fingers.map Fg.cs), .slice 20 (n.sessions.map Se.cs), .slice 23 (n.pends.map Pd.cs), .slice 4 (n.items.map It.cs), .slice 29 (n.jobs.map Jb.cs), .int .i64 n.rid, .int .i64 n.jobId, .slice 1 (n.draws.map u64Row), .slice 8 (n.results.map Rs.cs)]] = some (.bool true, []) := by
  have e1 := e51 n.pred n.pred h.pl
  have e2 := e51 n.list n.list h.ll
  have e3 := e52 n.fingers n.fingers h.fl
  have e4 := e53 n.sessions n.sessions h.sl
  have e5 := e54 n.pends n.pends h.dl h.df
  have e6 := e55 n.items n.items h.il
  have e7 := e56 n.jobs n.jobs h.jl h.ja
  have e8 := e57 n.draws n.draws h.wl
  have e9 := e58 n.results n.results h.rl
  simp only [decide_true] at e1 e2 e3 e4 e5 e6 e7 e8 e9
  rw [fn_text Try.func14 rfl rfl Try.results14 fq14.1 rfl rfl (by kernel_rfl)]
  simp -implicitDefEqProofs -dsimp +contextual (maxSteps := 9999999) (disch := first | omega | simp only [go_sem] <;> omega | refine ib ?_; kernel_rfl) only [go_sem, seval, ↓reduceIte, e1, e2, e3, e4, e5, e6, e7, e8, e9]

end Go.Proofs.Ytmfcabokoijcdaa
namespace Go.Proofs.Ytmfcabokoijcdaa
open Go.Am
set_option linter.unusedSimpArgs false
set_option linter.unusedVariables false
set_option maxRecDepth 100000
/-! Layer 29: the example; Taken, Lost. -/
theorem eTaken (n : Nd) (id e : Int) (h : n.mid 100000) : fn C2 20 [] [.agg [.str n.me.name, .int .u64 (n.me.id : Int), .int .i64 n.me.fr, .int .i64 n.me.un, .int .i64 n.me.ix, .str n.me.tag, .int .i64 n.clock, .str n.psk, .int .i64 n.gateI, .str n.gateK, .bool n.ready, .slice 8 (n.pred.map Pr.cs), .slice 8 (n.list.map Pr.cs), .slice 9 (n.fingers.map Fg.cs), .slice 20 (n.sessions.map Se.cs), .slice 23 (n.pends.map Pd.cs), .slice 4 (n.items.map It.cs), .slice 29 (n.jobs.map Jb.cs), .int .i64 n.rid, .int .i64 n.jobId, .slice 1 (n.draws.map u64Row), .slice 8 (n.results.map Rs.cs)], .int .i64 id, .int .i64 e] = ndRes (cameR n id (decide (e = 0))) := by
  have ca := eCame n id (decide (e = 0)) h
  generalize cameR n id (decide (e = 0)) = q at ca ⊢
  obtain ⟨m, acts⟩ := q
  unfold ndRes at ca ⊢
  rw [Nd.ocs_eq] at ca ⊢
  rw [fn_text Try.func20 rfl rfl Try.results20 fq20.1 rfl rfl (by kernel_rfl)]
  simp -implicitDefEqProofs -dsimp +contextual (maxSteps := 9999999) (disch := first | omega | simp only [go_sem] <;> omega | refine ib ?_; kernel_rfl) only [go_sem, seval, ↓reduceIte, ca]

theorem eLost (n : Nd) (id : Int) (h : n.mid 100000) : fn C2 26 [] [.agg [.str n.me.name, .int .u64 (n.me.id : Int), .int .i64 n.me.fr, .int .i64 n.me.un, .int .i64 n.me.ix, .str n.me.tag, .int .i64 n.clock, .str n.psk, .int .i64 n.gateI, .str n.gateK, .bool n.ready, .slice 8 (n.pred.map Pr.cs), .slice 8 (n.list.map Pr.cs), .slice 9 (n.fingers.map Fg.cs), .slice 20 (n.sessions.map Se.cs), .slice 23 (n.pends.map Pd.cs), .slice 4 (n.items.map It.cs), .slice 29 (n.jobs.map Jb.cs), .int .i64 n.rid, .int .i64 n.jobId, .slice 1 (n.draws.map u64Row), .slice 8 (n.results.map Rs.cs)], .int .i64 id] = ndRes (cameR n id false) := by
  have ca := eCame n id false h
  generalize cameR n id false = q at ca ⊢
  obtain ⟨m, acts⟩ := q
  unfold ndRes at ca ⊢
  rw [Nd.ocs_eq] at ca ⊢
  rw [fn_text Try.func26 rfl rfl Try.results26 fq26.1 rfl rfl (by kernel_rfl)]
  simp -implicitDefEqProofs -dsimp +contextual (maxSteps := 9999999) (disch := first | omega | simp only [go_sem] <;> omega | refine ib ?_; kernel_rfl) only [go_sem, seval, ↓reduceIte, ca]

set_option maxHeartbeats 4000000 in
theorem e8 (n : Nd) (m : Ms) (h : m.fit) : fn C 8 [] [.agg [.str n.me.name, .int .u64 (n.me.id : Int), .int .i64 n.me.fr, .int .i64 n.me.un, .int .i64 n.me.ix, .str n.me.tag, .int .i64 n.clock, .str n.psk, .int .i64 n.gateI, .str n.gateK, .bool n.ready, .slice 8 (n.pred.map Pr.cs), .slice 8 (n.list.map Pr.cs), .slice 9 (n.fingers.map Fg.cs), .slice 20 (n.sessions.map Se.cs), .slice 23 (n.pends.map Pd.cs), .slice 4 (n.items.map It.cs), .slice 29 (n.jobs.map Jb.cs), .int .i64 n.rid, .int .i64 n.jobId, .slice 1 (n.draws.map u64Row), .slice 8 (n.results.map Rs.cs)], .agg [.int .i64 m.kind, .int .i64 m.rid, .int .i64 m.ver, .int .i64 m.err, .int .u64 (m.id : Int), .bool m.has, .bool m.gone, .str m.key, .str m.val, .slice 6 (m.ents.map En.cs), .slice 4 (m.items.map It.cs)]] = some (.bool (decide (n.clock < 0) || decide (1099511627776 < n.clock) || greatM m), []) := by
  rw [fn_text Try.func8 rfl rfl Try.results8 fq8.1 rfl rfl (by kernel_rfl)]
  simp -implicitDefEqProofs -dsimp +contextual (maxSteps := 9999999) (disch := first | omega | simp only [go_sem] <;> omega | refine ib ?_; kernel_rfl) only [go_sem, seval, ↓reduceIte]
  (repeat' (refine kD_intro (fun _ => ?_) (fun _ => ?_))) <;> exact Res_bool (by simp [*])

theorem greatZ : greatM msZ = false := rfl
theorem msZ_fit : msZ.fit := ⟨Nat.zero_le _, Nat.zero_le _, Nat.zero_le _, Nat.zero_le _, fun e he => by simp [msZ] at he, fun x hx => by simp [msZ] at hx⟩
theorem eHugeZ (n : Nd) : fn C 8 [] [.agg [.str n.me.name, .int .u64 (n.me.id : Int), .int .i64 n.me.fr, .int .i64 n.me.un, .int .i64 n.me.ix, .str n.me.tag, .int .i64 n.clock, .str n.psk, .int .i64 n.gateI, .str n.gateK, .bool n.ready, .slice 8 (n.pred.map Pr.cs), .slice 8 (n.list.map Pr.cs), .slice 9 (n.fingers.map Fg.cs), .slice 20 (n.sessions.map Se.cs), .slice 23 (n.pends.map Pd.cs), .slice 4 (n.items.map It.cs), .slice 29 (n.jobs.map Jb.cs), .int .i64 n.rid, .int .i64 n.jobId, .slice 1 (n.draws.map u64Row), .slice 8 (n.results.map Rs.cs)], .agg [.int .i64 0, .int .i64 0, .int .i64 0, .int .i64 0, .int .u64 0, .bool false, .bool false, .str [], .str [], .slice 6 [], .slice 4 []]] = some (.bool (decide (n.clock < 0) || decide (1099511627776 < n.clock)), []) := by
  have := e8 n msZ msZ_fit
  rw [greatZ, Bool.or_false] at this
  exact this

/-- The example. -/
def itA : It := ⟨[107], [118], 1, false⟩
def itB : It := ⟨[107], [119], 2, false⟩
def enB : En := { enZ with name := [98] }
def enC : En := { enZ with name := [99] }
def prC : Pr := ⟨enC, 0, 0⟩
def nd1 : Nd := { ndZ with items := [itA], jobId := 1 }
def ndC : Nd := { ndZ with list := [prC], items := [itA], jobId := 1 }
def nd2 : Nd := { ndZ with list := [prC], items := [itB], jobId := 2, jobs := [{ jbZ with id := 2, kind := 4, til := 192, item := itB, waits := 1, asked := [[99]], back := enB, backRid := 6 }] }
def nd3 : Nd := { ndZ with list := [prC], items := [itB], jobId := 2 }
theorem w1 : beginR ndZ [107] [118] false enB 5 0 = (nd1, [doneA enB 5 itA 0]) := by decide +kernel
theorem w2 : beginR ndC [107] [119] false enB 6 0 = (nd2, [copyA enC itB 2]) := by decide +kernel
theorem w3 : cameR nd2 2 true = (nd3, [doneA enB 6 itB 0]) := by decide +kernel

end Go.Proofs.Ytmfcabokoijcdaa
namespace Go.Proofs.Ytmfcabokoijcdaa
open Go.Am
set_option linter.unusedSimpArgs false
set_option linter.unusedVariables false
set_option maxRecDepth 100000
/-! Layer 29: the example, carried out. -/
theorem ndZ_mid : ndZ.mid 0 := ⟨Nat.zero_le _, Nat.zero_le _, Nat.zero_le _, Nat.zero_le _, Nat.zero_le _, Nat.zero_le _, Nat.zero_le _, Nat.zero_le _, Nat.zero_le _, fun p hp => by simp [ndZ] at hp, fun p hp => by simp [ndZ] at hp, fun p hp => by simp [ndZ] at hp, fun p hp => by simp [ndZ] at hp⟩
theorem ndC_mid : ndC.mid 1 := by
  refine ⟨by decide, by decide, by decide, by decide, by decide, by decide, by decide, by decide, by decide, fun p hp => by simp [ndC, ndZ] at hp, fun p hp => by simp [ndC, ndZ] at hp, fun p hp => by simp [ndC, ndZ] at hp, fun p hp => ?_⟩
  simp [ndC, ndZ] at hp
  subst hp
  decide
theorem nd2_mid : nd2.mid 1 := by
  refine ⟨by decide, by decide, by decide, by decide, by decide, by decide, by decide, by decide, by decide, fun p hp => by simp [nd2, ndZ] at hp, fun p hp => by simp [nd2, ndZ] at hp, fun p hp => ?_, fun p hp => ?_⟩
  · simp [nd2, ndZ] at hp
    subst hp
    decide
  · simp [nd2, ndZ] at hp
    subst hp
    decide
set_option maxHeartbeats 8000000 in
theorem e10 : fn C2 10 [] [] = some (.bool true, []) := by
  have b1 := eBegin ndZ [107] [118] false enB 5 0 (ndZ_mid.le (by omega)) (by decide) (by decide)
  have b2 := eBegin ndC [107] [119] false enB 6 0 (ndC_mid.le (by omega)) (by decide) (by decide)
  have b3 := eTaken nd2 2 0 (nd2_mid.le (by omega))
  rw [w1] at b1
  rw [w2] at b2
  rw [show decide ((0 : Int) = 0) = true from rfl, w3] at b3
  simp only [ndRes, Nd.ocs_eq, ndZ, nd1, ndC, nd2, nd3, enZ, enB, enC, prC, itA, itB, jbZ, doneA, copyA, msZ, List.map_nil, List.map_cons, Nd.cs, En.cs, Pr.cs, It.cs, Jb.cs, Ac.cs, Ms.cs, strRow, Int.cast_ofNat_Int] at b1 b2 b3
  rw [fn_text Try.func10 rfl rfl Try.results10 fq10.1 rfl rfl (by kernel_rfl)]
  simp -implicitDefEqProofs -dsimp +contextual (maxSteps := 9999999) (disch := first | omega | simp only [go_sem] <;> omega | refine ib ?_; kernel_rfl) only [go_sem, seval, ↓reduceIte, b1, b2, b3]

end Go.Proofs.Ytmfcabokoijcdaa
namespace Go.Proofs.Ytmfcabokoijcdaa
open Go.Am
set_option linter.unusedSimpArgs false
set_option linter.unusedVariables false
set_option maxRecDepth 100000
/-! Layer 29: the statements on Settle, Begin. -/
theorem gN_mid {n : Nd} (g : greatN n = false) : n.mid 70 := (greatN_no g).mid
theorem gN_good {n : Nd} (g : greatN n = false) (h : n.fit) : n.good 70 := ⟨gN_mid g, h.d, fun j hj => (h.j j hj).ik⟩
set_option maxHeartbeats 8000000 in
theorem e5 (n : Nd) (id : Int) (x : It) (has : Bool) (e : Int) (hf : n.fit) (hx : x.fit) : fn C2 5 [] [.agg [.str n.me.name, .int .u64 (n.me.id : Int), .int .i64 n.me.fr, .int .i64 n.me.un, .int .i64 n.me.ix, .str n.me.tag, .int .i64 n.clock, .str n.psk, .int .i64 n.gateI, .str n.gateK, .bool n.ready, .slice 8 (n.pred.map Pr.cs), .slice 8 (n.list.map Pr.cs), .slice 9 (n.fingers.map Fg.cs), .slice 20 (n.sessions.map Se.cs), .slice 23 (n.pends.map Pd.cs), .slice 4 (n.items.map It.cs), .slice 29 (n.jobs.map Jb.cs), .int .i64 n.rid, .int .i64 n.jobId, .slice 1 (n.draws.map u64Row), .slice 8 (n.results.map Rs.cs)], .int .i64 id, .agg [.str x.k, .str x.v, .int .i64 x.n, .bool x.g], .bool has, .int .i64 e] = some (.bool true, []) := by
  have gr := e7 n hf
  have wk := e10
  have hxk := hx.k
  have hxv := hx.v
  rcases Bool.eq_false_or_eq_true (greatN n) with g | g
  · rw [g] at gr
    rw [fn_text Try.func5 rfl rfl Try.results5 fq5.1 rfl rfl (by kernel_rfl)]
    simp -implicitDefEqProofs -dsimp +contextual (maxSteps := 9999999) (disch := first | omega | simp only [go_sem] <;> omega | refine ib ?_; kernel_rfl) only [go_sem, seval, ↓reduceIte, gr, wk]
  rw [g] at gr
  by_cases hk : 300 < x.k.length
  · rw [fn_text Try.func5 rfl rfl Try.results5 fq5.1 rfl rfl (by kernel_rfl)]
    simp -implicitDefEqProofs -dsimp +contextual (maxSteps := 9999999) (disch := first | omega | simp only [go_sem] <;> omega | refine ib ?_; kernel_rfl) only [go_sem, seval, ↓reduceIte, gr, wk, hk]
  by_cases hv : 300 < x.v.length
  · rw [fn_text Try.func5 rfl rfl Try.results5 fq5.1 rfl rfl (by kernel_rfl)]
    simp -implicitDefEqProofs -dsimp +contextual (maxSteps := 9999999) (disch := first | omega | simp only [go_sem] <;> omega | refine ib ?_; kernel_rfl) only [go_sem, seval, ↓reduceIte, gr, wk, hk, hv]
  have s1 := e21 n id x has e ((gN_mid g).le (by omega))
  have s2 := e22 n id x has e ((gN_mid g).le (by omega))
  have gd := good_settle id x has e (gN_good g hf) (by omega)
  have s3 := eSame (settleR n id x has e) (gd.m.cmp (by decide) gd.d)
  clear gd
  generalize settleR n id x has e = m at s1 s2 s3
  rw [Nd.ocs_eq] at s1
  rw [Nd.cs] at s2
  rw [fn_text Try.func5 rfl rfl Try.results5 fq5.1 rfl rfl (by kernel_rfl)]
  simp -implicitDefEqProofs -dsimp +contextual (maxSteps := 9999999) (disch := first | omega | simp only [go_sem] <;> omega | refine ib ?_; kernel_rfl) only [go_sem, seval, ↓reduceIte, gr, wk, hk, hv, s1, s2, s3]

theorem hugeF {n : Nd} (h : 0 ≤ n.clock ∧ n.clock ≤ 1099511627776) : (decide (n.clock < 0) || decide (1099511627776 < n.clock)) = false := by simp; omega
theorem hugeT {n : Nd} (h : ¬ (0 ≤ n.clock ∧ n.clock ≤ 1099511627776)) : (decide (n.clock < 0) || decide (1099511627776 < n.clock)) = true := by simp; omega
theorem sameA (acts : List Ac) {k : Nat} (h : ActG k acts) (hk : k ≤ 9223372036854775807) : fn C 15 [] [.slice 20 (acts.map Ac.cs), .slice 20 (acts.map Ac.cs)] = some (.bool true, []) := by
  have := e15 acts acts (Nat.le_trans h.1 hk) h.2
  rwa [decide_eq_true rfl] at this
set_option maxHeartbeats 8000000 in
theorem e3 (n : Nd) (key val : List UInt8) (gone : Bool) (back : En) (rid job : Int) (ho : n.ok) (hf : n.fit) (hk : key.length ≤ 9223372036854775807) (hv : val.length ≤ 9223372036854775807) (hb : back.fit) :
    fn C2 3 [] [.agg [.str n.me.name, .int .u64 (n.me.id : Int), .int .i64 n.me.fr, .int .i64 n.me.un, .int .i64 n.me.ix, .str n.me.tag, .int .i64 n.clock, .str n.psk, .int .i64 n.gateI, .str n.gateK, .bool n.ready, .slice 8 (n.pred.map Pr.cs), .slice 8 (n.list.map Pr.cs), .slice 9 (n.fingers.map Fg.cs), .slice 20 (n.sessions.map Se.cs), .slice 23 (n.pends.map Pd.cs), .slice 4 (n.items.map It.cs), .slice 29 (n.jobs.map Jb.cs), .int .i64 n.rid, .int .i64 n.jobId, .slice 1 (n.draws.map u64Row), .slice 8 (n.results.map Rs.cs)], .str key, .str val, .bool gone, .agg [.str back.name, .int .u64 (back.id : Int), .int .i64 back.fr, .int .i64 back.un, .int .i64 back.ix, .str back.tag], .int .i64 rid, .int .i64 job] = some (.bool true, []) := by
  have gr := e7 n hf
  have hu := eHugeZ n
  have lg := e9 back hb.n hb.t
  have wk := e10
  rcases Bool.eq_false_or_eq_true (greatN n) with g | g
  · rw [g] at gr
    rw [fn_text Try.func3 rfl rfl Try.results3 fq3.1 rfl rfl (by kernel_rfl)]
    simp -implicitDefEqProofs -dsimp +contextual (maxSteps := 9999999) (disch := first | omega | simp only [go_sem] <;> omega | refine ib ?_; kernel_rfl) only [go_sem, seval, ↓reduceIte, gr, wk]
  rw [g] at gr
  by_cases hc : ¬ (0 ≤ n.clock ∧ n.clock ≤ 1099511627776)
  · rw [hugeT hc] at hu
    rw [fn_text Try.func3 rfl rfl Try.results3 fq3.1 rfl rfl (by kernel_rfl)]
    simp -implicitDefEqProofs -dsimp +contextual (maxSteps := 9999999) (disch := first | omega | simp only [go_sem] <;> omega | refine ib ?_; kernel_rfl) only [go_sem, seval, ↓reduceIte, gr, wk, hu]
  have hc := Decidable.not_not.1 hc
  rw [hugeF hc] at hu
  by_cases hk3 : 300 < key.length
  · rw [fn_text Try.func3 rfl rfl Try.results3 fq3.1 rfl rfl (by kernel_rfl)]
    simp -implicitDefEqProofs -dsimp +contextual (maxSteps := 9999999) (disch := first | omega | simp only [go_sem] <;> omega | refine ib ?_; kernel_rfl) only [go_sem, seval, ↓reduceIte, gr, wk, hu, hk3]
  by_cases hv3 : 300 < val.length
  · rw [fn_text Try.func3 rfl rfl Try.results3 fq3.1 rfl rfl (by kernel_rfl)]
    simp -implicitDefEqProofs -dsimp +contextual (maxSteps := 9999999) (disch := first | omega | simp only [go_sem] <;> omega | refine ib ?_; kernel_rfl) only [go_sem, seval, ↓reduceIte, gr, wk, hu, hk3, hv3]
  rcases Bool.eq_false_or_eq_true (greatE back) with ge | ge
  · rw [ge] at lg
    rw [fn_text Try.func3 rfl rfl Try.results3 fq3.1 rfl rfl (by kernel_rfl)]
    simp -implicitDefEqProofs -dsimp +contextual (maxSteps := 9999999) (disch := first | omega | simp only [go_sem] <;> omega | refine ib ?_; kernel_rfl) only [go_sem, seval, ↓reduceIte, gr, wk, hu, hk3, hv3, lg]
  rw [ge] at lg
  have jl := (gN_mid g).jl
  have cp := e11 n ((gN_mid g).le (by omega))
  have b1 := eBegin n key val gone back rid job ((gN_mid g).le (by omega)) hk hc
  have b2 := e13 n key val gone back rid job hk hv hc ho.jobId ((gN_mid g).le (by omega))
  have gd := good_begin key val gone back rid job hk hv (gN_good g hf) (by omega)
  have f1 := e16 n.jobs job (by omega)
  have f2 := e17 n.jobs job (by omega)
  have s0 := eSame n ((gN_mid g).cmp (by decide) hf.d)
  generalize beginR n key val gone back rid job = q at b1 b2 gd
  obtain ⟨m, acts⟩ := q
  have s1 := eSame m (gd.1.m.cmp (by decide) gd.1.d)
  have s2 := sameA acts gd.2 (by decide)
  unfold ndRes at b1
  unfold pairC at b2
  rw [Nd.ocs_eq] at b1
  rw [Nd.cs] at b2
  rw [fn_text Try.func3 rfl rfl Try.results3 fq3.1 rfl rfl (by kernel_rfl)]
  simp -implicitDefEqProofs -dsimp +contextual (maxSteps := 9999999) (disch := first | omega | simp only [go_sem] <;> omega | refine ib ?_; kernel_rfl) only [go_sem, seval, ↓reduceIte, gr, wk, hu, hk3, hv3, lg, cp, b1, b2, f1, f2, s0, s1, s2]

end Go.Proofs.Ytmfcabokoijcdaa
namespace Go.Proofs.Ytmfcabokoijcdaa
open Go.Am
set_option linter.unusedSimpArgs false
set_option linter.unusedVariables false
set_option maxRecDepth 100000
/-! Layer 29: the statement on answers. -/
set_option maxHeartbeats 16000000 in
theorem e6 (n : Nd) (id e : Int) (hf : n.fit) : fn C2 6 [] [.agg [.str n.me.name, .int .u64 (n.me.id : Int), .int .i64 n.me.fr, .int .i64 n.me.un, .int .i64 n.me.ix, .str n.me.tag, .int .i64 n.clock, .str n.psk, .int .i64 n.gateI, .str n.gateK, .bool n.ready, .slice 8 (n.pred.map Pr.cs), .slice 8 (n.list.map Pr.cs), .slice 9 (n.fingers.map Fg.cs), .slice 20 (n.sessions.map Se.cs), .slice 23 (n.pends.map Pd.cs), .slice 4 (n.items.map It.cs), .slice 29 (n.jobs.map Jb.cs), .int .i64 n.rid, .int .i64 n.jobId, .slice 1 (n.draws.map u64Row), .slice 8 (n.results.map Rs.cs)], .int .i64 id, .int .i64 e] = some (.bool true, []) := by
  have gr := e7 n hf
  have hu := eHugeZ n
  have wk := e10
  rcases Bool.eq_false_or_eq_true (greatN n) with g | g
  · rw [g] at gr
    rw [fn_text Try.func6 rfl rfl Try.results6 fq6.1 rfl rfl (by kernel_rfl)]
    simp -implicitDefEqProofs -dsimp +contextual (maxSteps := 9999999) (disch := first | omega | simp only [go_sem] <;> omega | refine ib ?_; kernel_rfl) only [go_sem, seval, ↓reduceIte, gr, wk]
  rw [g] at gr
  by_cases hc : ¬ (0 ≤ n.clock ∧ n.clock ≤ 1099511627776)
  · rw [hugeT hc] at hu
    rw [fn_text Try.func6 rfl rfl Try.results6 fq6.1 rfl rfl (by kernel_rfl)]
    simp -implicitDefEqProofs -dsimp +contextual (maxSteps := 9999999) (disch := first | omega | simp only [go_sem] <;> omega | refine ib ?_; kernel_rfl) only [go_sem, seval, ↓reduceIte, gr, wk, hu]
  have hc := Decidable.not_not.1 hc
  rw [hugeF hc] at hu
  have hm : n.mid 100000 := (gN_mid g).le (by omega)
  have a1 := eMore n id hm
  have a2 := e24 n id hm
  have b1 := eTaken n id e hm
  have b2 := e25 n id e hm
  have c1 := eLost n id hm
  have c2 := e27 n id hm
  have d1 : fn C 28 [] [.agg [.str n.me.name, .int .u64 (n.me.id : Int), .int .i64 n.me.fr, .int .i64 n.me.un, .int .i64 n.me.ix, .str n.me.tag, .int .i64 n.clock, .str n.psk, .int .i64 n.gateI, .str n.gateK, .bool n.ready, .slice 8 (n.pred.map Pr.cs), .slice 8 (n.list.map Pr.cs), .slice 9 (n.fingers.map Fg.cs), .slice 20 (n.sessions.map Se.cs), .slice 23 (n.pends.map Pd.cs), .slice 4 (n.items.map It.cs), .slice 29 (n.jobs.map Jb.cs), .int .i64 n.rid, .int .i64 n.jobId, .slice 1 (n.draws.map u64Row), .slice 8 (n.results.map Rs.cs)]] = ndRes (lateR n) := e28 n hm
  have d2 := e29 n hm
  have ga := good_more id (gN_good g hf) (by omega)
  have gb := good_came id (decide (e = 0)) (gN_good g hf) (by omega)
  have gc := good_came id false (gN_good g hf) (by omega)
  have gd := good_late (by omega) n.jobs.length n (gN_good g hf)
  have gj : n.jobs.length ≤ 9223372036854775807 := Nat.le_trans (gN_mid g).jl (by decide)
  change _ ∧ ActG _ (lateR n).2 at gd
  change (lateR n).1.good 70 ∧ _ at gd
  generalize lateR n = qd at d1 d2 gd
  generalize cameR n id false = qc at c1 c2 gc
  generalize cameR n id (decide (e = 0)) = qb at b1 b2 gb
  generalize moreR n id = qa at a1 a2 ga
  obtain ⟨ma, xa⟩ := qa
  obtain ⟨mb, xb⟩ := qb
  obtain ⟨mc, xc⟩ := qc
  obtain ⟨md, xd⟩ := qd
  have s1 := eSame ma (ga.1.m.cmp (by decide) ga.1.d)
  have s2 := eSame mb (gb.1.m.cmp (by decide) gb.1.d)
  have s3 := eSame mc (gc.1.m.cmp (by decide) gc.1.d)
  have s4 := eSame md (gd.1.m.cmp (by decide) gd.1.d)
  have t1 := sameA xa ga.2 (by decide)
  have t2 := sameA xb gb.2 (by decide)
  have t3 := sameA xc gc.2 (by decide)
  have t4 := sameA xd gd.2 gj
  unfold ndRes at a1 b1 c1 d1
  unfold pairC at a2 b2 c2 d2
  rw [Nd.ocs_eq] at a1 b1 c1 d1
  rw [Nd.cs] at a2 b2 c2 d2
  clear ga gb gc gd
  rw [fn_text Try.func6 rfl rfl Try.results6 fq6.1 rfl rfl (by kernel_rfl)]
  simp -implicitDefEqProofs -dsimp +contextual (maxSteps := 9999999) (disch := first | omega | simp only [go_sem] <;> omega | refine ib ?_; kernel_rfl) only [go_sem, seval, ↓reduceIte, gr, wk, hu, a1, a2, b1, b2, c1, c2, d1, d2, s1, s2, s3, s4, t1, t2, t3, t4]

end Go.Proofs.Ytmfcabokoijcdaa
namespace Go.Proofs.Ytmfcabokoijcdaa
open Go.Am
set_option linter.unusedSimpArgs false
set_option linter.unusedVariables false
set_option maxRecDepth 100000
/-! Layer 29: a value put for another node. (Plain.) -/
theorem setR_get (l : List It) (x : It) : getR (setR l x) x.k = (x, true) := by
  unfold setR placeR
  by_cases h : l.findIdx (fun y => decide (y.k = x.k)) < l.length
  · rw [if_pos h, if_pos (by omega), Int.toNat_natCast]
    refine (get_at (i := l.findIdx (fun y => decide (y.k = x.k))) (by simpa using h) ?_ (by simp)).trans (by simp)
    rw [List.take_set_of_le (Nat.le_refl _)]
    refine List.all_eq_true.2 fun y hy => ?_
    obtain ⟨j, hj, rfl⟩ := List.mem_take_iff_getElem.1 hy
    have := List.not_of_lt_findIdx (p := fun y : It => decide (y.k = x.k)) (xs := l) (i := j) (by omega)
    simpa using this
  · rw [if_neg h, if_neg (by omega)]
    have hn : ∀ z ∈ l, z.k ≠ x.k := fun z hz e => h (List.findIdx_lt_length_of_exists ⟨z, hz, by simpa using e⟩)
    have hs : (l.take (insAt l x.k)).find? (fun y => decide (y.k = x.k)) = none := by
      rw [List.find?_eq_none]; intro z hz; simpa using hn z (List.mem_of_mem_take hz)
    unfold getR
    rw [List.find?_append, hs]
    simp
theorem putR_get (l : List It) (k v : List UInt8) (g : Bool) (h : (putR l k v g).2.2 = 0) : getR (putR l k v g).1 k = ((putR l k v g).2.1, true) := by
  unfold putR at h ⊢
  split at h
  · rename_i h1
    rw [if_pos h1]
    split at h
    · cases h
    · rename_i h2
      rw [if_neg h2]
      split at h
      · cases h
      · rename_i h3
        rw [if_neg h3]
        exact setR_get l _
  · cases h
theorem fewR_0 : fewR 0 = 0 := rfl
theorem fewR_1 : fewR 1 = 1 := rfl
theorem fewR_2 : fewR 2 = 2 := rfl
theorem copR_one (j : Jb) (h : j.kind = 4) : copR [j] j.id = ((0 : Nat) : Int) := copR_at (i := 0) (by simp) (placeG_at (i := 0) (by simp) (by simp) (by simp [jobAt])) h
/-- The node, while the copy job lives. -/
def onceN (n : Nd) (key val : List UInt8) (back : En) (rid : Int) (js : List Jb) : Nd := { begunR n key val false back rid 0 with jobs := js }
def onceJ (n : Nd) (key val : List UInt8) (back : En) (rid acks waits : Int) (asked : List (List UInt8)) : Jb := { copyJ n (putR n.items key val false).2.1 back rid 0 with acks := acks, waits := waits, asked := asked }
theorem onceN_begun {n : Nd} {key val : List UInt8} {back : En} {rid : Int} (hj : n.jobs = []) : begunR n key val false back rid 0 = onceN n key val back rid [onceJ n key val back rid 0 0 []] := by
  unfold onceN begunR onceJ; simp [hj, copyJ, jbZ]
theorem more_once (n : Nd) (key val : List UInt8) (back : En) (rid acks waits : Int) (asked : List (List UInt8)) : moreR (onceN n key val back rid [onceJ n key val back rid acks waits asked]) (nextI n.jobId) =
    moreFin (onceN n key val back rid [onceJ n key val back rid acks waits asked]) 0 (askR (nextI n.jobId) n.list (onceJ n key val back rid acks waits asked)) :=
  moreR_at (i := 0) (n := onceN n key val back rid [onceJ n key val back rid acks waits asked]) (by simp [onceN]) (copR_one _ rfl)
theorem came_once (n : Nd) (key val : List UInt8) (back : En) (rid acks waits : Int) (asked : List (List UInt8)) : cameR (onceN n key val back rid [onceJ n key val back rid acks waits asked]) (nextI n.jobId) true =
    moreR (onceN n key val back rid [onceJ n key val back rid (fewR acks + 1) (if fewR waits - 1 < 0 then 0 else fewR waits - 1) asked]) (nextI n.jobId) := by
  unfold cameR
  rw [show copR (onceN n key val back rid [onceJ n key val back rid acks waits asked]).jobs (nextI n.jobId) = ((0 : Nat) : Int) from copR_one _ rfl, if_pos (by omega)]
  rfl
theorem fin_go {n : Nd} {key val : List UInt8} {back : En} {rid acks waits : Int} {asked : List (List UInt8)} {j : Jb} (acts : List Ac) (h : 0 < waits) : moreFin (onceN n key val back rid [j]) 0 (onceJ n key val back rid acks waits asked, acts) = (onceN n key val back rid [onceJ n key val back rid acks waits asked], acts) := by
  unfold moreFin; rw [if_pos (show 0 < (onceJ n key val back rid acks waits asked, acts).1.waits from h)]; rfl
theorem fin_end {n : Nd} {key val : List UInt8} {back : En} {rid acks waits : Int} {asked : List (List UInt8)} {j : Jb} (acts : List Ac) (h : ¬ 0 < waits) : moreFin (onceN n key val back rid [j]) 0 (onceJ n key val back rid acks waits asked, acts) = (onceN n key val back rid [], acts ++ [doneA back rid (putR n.items key val false).2.1 0]) := by
  unfold moreFin; rw [if_neg (show ¬ 0 < (onceJ n key val back rid acks waits asked, acts).1.waits from h)]; rfl
theorem begin_once {n : Nd} {key val : List UInt8} (back : En) (rid : Int) (hj : n.jobs = []) (he : (putR n.items key val false).2.2 = 0) : beginR n key val false back rid 0 = moreR (onceN n key val back rid [onceJ n key val back rid 0 0 []]) (nextI n.jobId) := by
  unfold beginR
  rw [if_pos (by unfold beginE; rw [hj]; exact he), onceN_begun hj]
theorem begin_bad {n : Nd} {key val : List UInt8} (back : En) (rid : Int) (hj : n.jobs = []) (he : ¬ (putR n.items key val false).2.2 = 0) : beginR n key val false back rid 0 = (n, [doneA back rid zeroIt (putR n.items key val false).2.2]) := by
  have hb : beginE n key val false = (putR n.items key val false).2.2 := by unfold beginE; rw [hj]; rfl
  unfold beginR
  rw [hb, if_neg he]; rfl
/-- No peers: the answer comes at once. -/
theorem once0 {n : Nd} {key val : List UInt8} (back : En) (rid : Int) (hj : n.jobs = []) (he : (putR n.items key val false).2.2 = 0) (hl : n.list = []) : beginR n key val false back rid 0 = (onceN n key val back rid [], [doneA back rid (putR n.items key val false).2.1 0]) := by
  rw [begin_once back rid hj he, more_once, hl, askR, fin_end _ (by omega)]; rfl
/-- One peer. -/
theorem once1 {n : Nd} {key val : List UInt8} (back : En) (rid : Int) (hj : n.jobs = []) (he : (putR n.items key val false).2.2 = 0) {p : Pr} (hl : n.list = [p]) :
    beginR n key val false back rid 0 = (onceN n key val back rid [onceJ n key val back rid 0 1 [p.e.name]], [copyA p.e (putR n.items key val false).2.1 (nextI n.jobId)]) ∧
    cameR (onceN n key val back rid [onceJ n key val back rid 0 1 [p.e.name]]) (nextI n.jobId) true = (onceN n key val back rid [], [doneA back rid (putR n.items key val false).2.1 0]) := by
  constructor
  · rw [begin_once back rid hj he, more_once, hl]
    have : askR (nextI n.jobId) [p] (onceJ n key val back rid 0 0 []) = (onceJ n key val back rid 0 1 [p.e.name], [copyA p.e (putR n.items key val false).2.1 (nextI n.jobId)]) := by
      rw [askR, if_neg (by show ¬ (2 : Int) ≤ 0 + 0; omega), if_neg (by simp [onceJ])]; rfl
    rw [this, fin_go _ (by omega)]
  · rw [came_once, more_once, hl]
    have : askR (nextI n.jobId) [p] (onceJ n key val back rid (fewR 0 + 1) (if fewR 1 - 1 < 0 then 0 else fewR 1 - 1) [p.e.name]) = (onceJ n key val back rid 1 0 [p.e.name], []) := by
      rw [askR, if_neg (by show ¬ (2 : Int) ≤ 1 + 0; omega), if_pos (by simp [onceJ])]; rfl
    rw [this, fin_end _ (by omega)]; rfl
/-- Two peers or more. -/
theorem once2 {n : Nd} {key val : List UInt8} (back : En) (rid : Int) (hj : n.jobs = []) (he : (putR n.items key val false).2.2 = 0) {p q : Pr} {r : List Pr} (hl : n.list = p :: q :: r) (hn : ¬ p.e.name = q.e.name) :
    beginR n key val false back rid 0 = (onceN n key val back rid [onceJ n key val back rid 0 2 [p.e.name, q.e.name]], [copyA p.e (putR n.items key val false).2.1 (nextI n.jobId), copyA q.e (putR n.items key val false).2.1 (nextI n.jobId)]) ∧
    cameR (onceN n key val back rid [onceJ n key val back rid 0 2 [p.e.name, q.e.name]]) (nextI n.jobId) true = (onceN n key val back rid [onceJ n key val back rid 1 1 [p.e.name, q.e.name]], []) ∧
    cameR (onceN n key val back rid [onceJ n key val back rid 1 1 [p.e.name, q.e.name]]) (nextI n.jobId) true = (onceN n key val back rid [], [doneA back rid (putR n.items key val false).2.1 0]) := by
  refine ⟨?_, ?_, ?_⟩
  · rw [begin_once back rid hj he, more_once, hl]
    have : askR (nextI n.jobId) (p :: q :: r) (onceJ n key val back rid 0 0 []) = (onceJ n key val back rid 0 2 [p.e.name, q.e.name], [copyA p.e (putR n.items key val false).2.1 (nextI n.jobId), copyA q.e (putR n.items key val false).2.1 (nextI n.jobId)]) := by
      rw [askR, if_neg (by show ¬ (2 : Int) ≤ 0 + 0; omega), if_neg (by simp [onceJ]), askR, if_neg (by show ¬ (2 : Int) ≤ 0 + 1; omega), if_neg (by simp [onceJ]; exact fun e => hn e.symm), askR_full _ (by show (2 : Int) ≤ 0 + 2; omega)]; rfl
    rw [this, fin_go _ (by omega)]
  · rw [came_once, more_once, hl, askR_full _ (by show (2 : Int) ≤ 1 + 1; omega)]
    exact fin_go _ (by show (0 : Int) < 1; omega)
  · rw [came_once, more_once, hl, askR_full _ (by show (2 : Int) ≤ 2 + 0; omega)]
    exact fin_end [] (by show ¬ (0 : Int) < 0; omega)

end Go.Proofs.Ytmfcabokoijcdaa
namespace Go.Proofs.Ytmfcabokoijcdaa
open Go.Am
set_option linter.unusedSimpArgs false
set_option linter.unusedVariables false
set_option maxRecDepth 100000
/-! Layer 29: CopiesOnce. -/
def PairNe (l : List Pr) (i : Nat) : Prop := ∀ (a b : Nat) (ha : a < b) (hb : b < i) (hl : b < l.length), ¬ (l[b]'hl).e.name = (l[a]'(Nat.lt_trans ha hl)).e.name
theorem PairNe.step {l : List Pr} {i : Nat} (h : PairNe l i) (hi : i < l.length) (h2 : ∀ (k : Nat) (hk : k < i), ¬ l[i].e.name = (l[k]'(Nat.lt_trans hk hi)).e.name) : PairNe l (i + 1) := by
  intro a b ha hb hl
  by_cases e : b = i
  · subst e; exact h2 a ha
  · exact h a b ha (by omega) hl
theorem take_row (l : List Pr) (i k : Nat) (hk : k < i) (hi : i < l.length) : ((l.take i).map Pr.cs)[k]? = some [.str (l[k]'(Nat.lt_trans hk hi)).e.name, .int .u64 ((l[k]'(Nat.lt_trans hk hi)).e.id : Int), .int .i64 (l[k]'(Nat.lt_trans hk hi)).e.fr, .int .i64 (l[k]'(Nat.lt_trans hk hi)).e.un, .int .i64 (l[k]'(Nat.lt_trans hk hi)).e.ix, .str (l[k]'(Nat.lt_trans hk hi)).e.tag, .int .i64 (l[k]'(Nat.lt_trans hk hi)).since, .int .i64 (l[k]'(Nat.lt_trans hk hi)).under] := by
  rw [List.getElem?_map, List.getElem?_take_of_lt hk, List.getElem?_eq_getElem (Nat.lt_trans hk hi)]; rfl
theorem kLoop_out2 {C : Cf} {lo : Nat} {b : Code} {Q : Exit → Am.St → Option Res} {R : Option Res} (e e2 : Exit) (P P2 : (Nat → AVal) → Heap → Prop) {f : Nat → AVal} {H : Heap}
    (h1 : ∀ Q' : Exit → Am.St → Option Res, (∀ f H, P f H → Q' e ⟨f, H⟩ = R) → (∀ f H, P2 f H → Q' e2 ⟨f, H⟩ = R) → @kLoop f H ⟨(C, lo, b, Q')⟩ = R) (h2 : ∀ f H, P f H → Q e ⟨f, H⟩ = R) (h3 : ∀ f H, P2 f H → Q e2 ⟨f, H⟩ = R) : @kLoop f H ⟨(C, lo, b, Q)⟩ = R := h1 Q h2 h3
theorem list3 {α : Type} (l : List α) : l = [] ∨ (∃ p, l = [p]) ∨ (∃ p q r, l = p :: q :: r) := by
  match l with
  | [] => exact .inl rfl
  | [p] => exact .inr (.inl ⟨p, rfl⟩)
  | p :: q :: r => exact .inr (.inr ⟨p, q, r, rfl⟩)
set_option maxHeartbeats 16000000 in
theorem e4 (n : Nd) (key val : List UInt8) (back : En) (rid : Int) (ho : n.ok) (hf : n.fit) (hk : key.length ≤ 9223372036854775807) (hv : val.length ≤ 9223372036854775807) (hb : back.fit) :
    fn C2 4 [] [.agg [.str n.me.name, .int .u64 (n.me.id : Int), .int .i64 n.me.fr, .int .i64 n.me.un, .int .i64 n.me.ix, .str n.me.tag, .int .i64 n.clock, .str n.psk, .int .i64 n.gateI, .str n.gateK, .bool n.ready, .slice 8 (n.pred.map Pr.cs), .slice 8 (n.list.map Pr.cs), .slice 9 (n.fingers.map Fg.cs), .slice 20 (n.sessions.map Se.cs), .slice 23 (n.pends.map Pd.cs), .slice 4 (n.items.map It.cs), .slice 29 (n.jobs.map Jb.cs), .int .i64 n.rid, .int .i64 n.jobId, .slice 1 (n.draws.map u64Row), .slice 8 (n.results.map Rs.cs)], .str key, .str val, .agg [.str back.name, .int .u64 (back.id : Int), .int .i64 back.fr, .int .i64 back.un, .int .i64 back.ix, .str back.tag], .int .i64 rid] = some (.bool true, []) := by
  have gr := e7 n hf
  have hu := eHugeZ n
  have lg := e9 back hb.n hb.t
  have wk := e10
  have jl := hf.jl
  have ll := hf.ll
  rcases Bool.eq_false_or_eq_true (greatN n) with g | g
  · rw [g] at gr
    rw [fn_text Try.func4 rfl rfl Try.results4 fq4.1 rfl rfl (by kernel_rfl)]
    simp -implicitDefEqProofs -dsimp +contextual (maxSteps := 9999999) (disch := first | omega | simp only [go_sem] <;> omega | refine ib ?_; kernel_rfl) only [go_sem, seval, ↓reduceIte, gr, wk]
  rw [g] at gr
  by_cases hc : ¬ (0 ≤ n.clock ∧ n.clock ≤ 1099511627776)
  · rw [hugeT hc] at hu
    rw [fn_text Try.func4 rfl rfl Try.results4 fq4.1 rfl rfl (by kernel_rfl)]
    simp -implicitDefEqProofs -dsimp +contextual (maxSteps := 9999999) (disch := first | omega | simp only [go_sem] <;> omega | refine ib ?_; kernel_rfl) only [go_sem, seval, ↓reduceIte, gr, wk, hu]
  have hc := Decidable.not_not.1 hc
  rw [hugeF hc] at hu
  by_cases hk3 : 300 < key.length
  · rw [fn_text Try.func4 rfl rfl Try.results4 fq4.1 rfl rfl (by kernel_rfl)]
    simp -implicitDefEqProofs -dsimp +contextual (maxSteps := 9999999) (disch := first | omega | simp only [go_sem] <;> omega | refine ib ?_; kernel_rfl) only [go_sem, seval, ↓reduceIte, gr, wk, hu, hk3]
  by_cases hv3 : 300 < val.length
  · rw [fn_text Try.func4 rfl rfl Try.results4 fq4.1 rfl rfl (by kernel_rfl)]
    simp -implicitDefEqProofs -dsimp +contextual (maxSteps := 9999999) (disch := first | omega | simp only [go_sem] <;> omega | refine ib ?_; kernel_rfl) only [go_sem, seval, ↓reduceIte, gr, wk, hu, hk3, hv3]
  rcases Bool.eq_false_or_eq_true (greatE back) with ge | ge
  · rw [ge] at lg
    rw [fn_text Try.func4 rfl rfl Try.results4 fq4.1 rfl rfl (by kernel_rfl)]
    simp -implicitDefEqProofs -dsimp +contextual (maxSteps := 9999999) (disch := first | omega | simp only [go_sem] <;> omega | refine ib ?_; kernel_rfl) only [go_sem, seval, ↓reduceIte, gr, wk, hu, hk3, hv3, lg]
  rw [ge] at lg
  by_cases hjl : 0 < n.jobs.length
  · rw [fn_text Try.func4 rfl rfl Try.results4 fq4.1 rfl rfl (by kernel_rfl)]
    simp -implicitDefEqProofs -dsimp +contextual (maxSteps := 9999999) (disch := first | omega | simp only [go_sem] <;> omega | refine ib ?_; kernel_rfl) only [go_sem, seval, ↓reduceIte, gr, wk, hu, hk3, hv3, lg, hjl]
  have hj : n.jobs = [] := List.eq_nil_of_length_eq_zero (by omega)
  rw [fn_text Try.func4 rfl rfl Try.results4 fq4.1 rfl rfl (by kernel_rfl)]
  simp -implicitDefEqProofs -dsimp +contextual (maxSteps := 9999999) (disch := first | omega | simp only [go_sem] <;> omega | refine ib ?_; kernel_rfl) only [go_sem, seval, ↓reduceIte, gr, wk, hu, hk3, hv3, lg, hjl]
  refine kLoop_out2 (.exit 0) .ret (fun f H => f 1 = .str key ∧ f 2 = .str val ∧ f 4 = .int .i64 rid ∧ f 5 = .ptr 105 1 0 0 ∧ f 8 = .ptr 108 1 0 0 ∧ H 105 = ⟨1, .live, 22, [[.str n.me.name, .int .u64 (n.me.id : Int), .int .i64 n.me.fr, .int .i64 n.me.un, .int .i64 n.me.ix, .str n.me.tag, .int .i64 n.clock, .str n.psk, .int .i64 n.gateI, .str n.gateK, .bool n.ready, .slice 8 (n.pred.map Pr.cs), .slice 8 (n.list.map Pr.cs), .slice 9 (n.fingers.map Fg.cs), .slice 20 (n.sessions.map Se.cs), .slice 23 (n.pends.map Pd.cs), .slice 4 (n.items.map It.cs), .slice 29 (n.jobs.map Jb.cs), .int .i64 n.rid, .int .i64 n.jobId, .slice 1 (n.draws.map u64Row), .slice 8 (n.results.map Rs.cs)]], false⟩ ∧ H 108 = ⟨1, .live, 6, [[.str back.name, .int .u64 (back.id : Int), .int .i64 back.fr, .int .i64 back.un, .int .i64 back.ix, .str back.tag]], false⟩ ∧ PairNe n.list n.list.length) (fun f _ => f 10 = .bool true) ?_ ?_ ?_
  · intro Q hQ hR
    refine kFor n.list.length (fun i f H => f 1 = .str key ∧ f 2 = .str val ∧ f 4 = .int .i64 rid ∧ f 5 = .ptr 105 1 0 0 ∧ f 8 = .ptr 108 1 0 0 ∧ f 56 = .slice 8 (n.list.map Pr.cs) ∧ f 57 = .int .i64 (n.list.length : Nat) ∧ f 58 = .int .i64 (i : Nat) ∧ H 105 = ⟨1, .live, 22, [[.str n.me.name, .int .u64 (n.me.id : Int), .int .i64 n.me.fr, .int .i64 n.me.un, .int .i64 n.me.ix, .str n.me.tag, .int .i64 n.clock, .str n.psk, .int .i64 n.gateI, .str n.gateK, .bool n.ready, .slice 8 (n.pred.map Pr.cs), .slice 8 (n.list.map Pr.cs), .slice 9 (n.fingers.map Fg.cs), .slice 20 (n.sessions.map Se.cs), .slice 23 (n.pends.map Pd.cs), .slice 4 (n.items.map It.cs), .slice 29 (n.jobs.map Jb.cs), .int .i64 n.rid, .int .i64 n.jobId, .slice 1 (n.draws.map u64Row), .slice 8 (n.results.map Rs.cs)]], false⟩ ∧ H 108 = ⟨1, .live, 6, [[.str back.name, .int .u64 (back.id : Int), .int .i64 back.fr, .int .i64 back.un, .int .i64 back.ix, .str back.tag]], false⟩ ∧ PairNe n.list i) ?_ ?_
      (by exact ⟨rfl, rfl, rfl, rfl, rfl, rfl, rfl, rfl, rfl, rfl, fun a b ha hb hl => by omega⟩)
    · rintro i f H hi ⟨f1, f2, f4, f5, f8, f56, f57, f58, H5, H8, hp⟩ ih
      have row := pr_row n.list i hi
      simp -implicitDefEqProofs -dsimp +contextual (maxSteps := 9999999) (disch := first | omega | simp only [go_sem] <;> omega | refine ib ?_; kernel_rfl) only [go_sem, seval, ↓reduceIte, f1, f2, f4, f5, f8, f56, f57, f58, H5, H8, hi, row]
      refine kFor i (fun k f H' => f 1 = .str key ∧ f 2 = .str val ∧ f 4 = .int .i64 rid ∧ f 5 = .ptr 105 1 0 0 ∧ f 8 = .ptr 108 1 0 0 ∧ f 12 = .ptr 112 ((H 112).gen + 1) 0 0 ∧ f 56 = .slice 8 (n.list.map Pr.cs) ∧ f 57 = .int .i64 (n.list.length : Nat) ∧ f 58 = .int .i64 (i : Nat) ∧ f 66 = .slice 8 ((n.list.take i).map Pr.cs) ∧ f 67 = .int .i64 (i : Nat) ∧ f 68 = .int .i64 (k : Nat) ∧ H' 105 = ⟨1, .live, 22, [[.str n.me.name, .int .u64 (n.me.id : Int), .int .i64 n.me.fr, .int .i64 n.me.un, .int .i64 n.me.ix, .str n.me.tag, .int .i64 n.clock, .str n.psk, .int .i64 n.gateI, .str n.gateK, .bool n.ready, .slice 8 (n.pred.map Pr.cs), .slice 8 (n.list.map Pr.cs), .slice 9 (n.fingers.map Fg.cs), .slice 20 (n.sessions.map Se.cs), .slice 23 (n.pends.map Pd.cs), .slice 4 (n.items.map It.cs), .slice 29 (n.jobs.map Jb.cs), .int .i64 n.rid, .int .i64 n.jobId, .slice 1 (n.draws.map u64Row), .slice 8 (n.results.map Rs.cs)]], false⟩ ∧ H' 108 = ⟨1, .live, 6, [[.str back.name, .int .u64 (back.id : Int), .int .i64 back.fr, .int .i64 back.un, .int .i64 back.ix, .str back.tag]], false⟩ ∧ H' 112 = ⟨(H 112).gen + 1, .live, 8, [[.str n.list[i].e.name, .int .u64 (n.list[i].e.id : Int), .int .i64 n.list[i].e.fr, .int .i64 n.list[i].e.un, .int .i64 n.list[i].e.ix, .str n.list[i].e.tag, .int .i64 n.list[i].since, .int .i64 n.list[i].under]], false⟩ ∧ ∀ (k' : Nat) (hk : k' < k) (hl : k' < n.list.length), ¬ n.list[i].e.name = (n.list[k']'hl).e.name) ?_ ?_
        (by exact ⟨f1, f2, f4, f5, f8, rfl, f56, f57, f58, rfl, rfl, rfl, H5, H8, rfl, fun k' hk => by omega⟩)
      · rintro k f H' hk ⟨f1, f2, f4, f5, f8, f12, f56, f57, f58, f66, f67, f68, H5, H8, H12, hq⟩ ih2
        have row2 := take_row n.list i k hk hi
        have hk2 : k < n.list.length := by omega
        simp -implicitDefEqProofs -dsimp +contextual (maxSteps := 9999999) (disch := first | omega | simp only [go_sem] <;> omega | refine ib ?_; kernel_rfl) only [go_sem, seval, ↓reduceIte, f1, f2, f4, f5, f8, f12, f56, f57, f58, f66, f67, f68, H5, H8, H12, hk, row2]
        (repeat' (refine kD_intro (fun _ => ?_) (fun _ => ?_)))
        · exact hR _ _ rfl
        rename_i hne
        refine ih2 _ _ ?_
        refine ⟨f1, f2, f4, f5, f8, f12, f56, f57, f58, f66, f67, rfl, H5, H8, H12, fun k' hk' hl' => ?_⟩
        by_cases e : k' = k
        · subst e; exact hne
        · exact hq k' (by omega) hl'
      · rintro f H' ⟨f1, f2, f4, f5, f8, f12, f56, f57, f58, f66, f67, f68, H5, H8, H12, hq⟩
        simp -implicitDefEqProofs -dsimp +contextual (maxSteps := 9999999) (disch := first | omega | simp only [go_sem] <;> omega | refine ib ?_; kernel_rfl) only [go_sem, seval, ↓reduceIte, f1, f2, f4, f5, f8, f12, f56, f57, f58, f66, f67, f68, H5, H8]
        refine ih _ _ ?_
        exact ⟨f1, f2, f4, f5, f8, f56, f57, rfl, H5, H8, hp.step hi fun k hk => hq k hk (by omega)⟩
    · rintro f H ⟨f1, f2, f4, f5, f8, f56, f57, f58, H5, H8, hp⟩
      simp -implicitDefEqProofs -dsimp +contextual (maxSteps := 9999999) (disch := first | omega | simp only [go_sem] <;> omega | refine ib ?_; kernel_rfl) only [go_sem, seval, ↓reduceIte, f1, f2, f4, f5, f8, f56, f57, f58, H5, H8]
      exact hQ _ _ ⟨f1, f2, f4, f5, f8, H5, H8, hp⟩
  · rintro f H ⟨f1, f2, f4, f5, f8, H5, H8, hp⟩
    have pu := e18 n.items key val false (by have := hf.il; have := (gN_mid g).il; omega) hk
    have b1 := eBegin n key val false back rid 0 ((gN_mid g).le (by omega)) hk hc
    by_cases he : ¬ (putR n.items key val false).2.2 = 0
    · rw [begin_bad back rid hj he] at b1
      have s0 := eSame n ((gN_mid g).cmp (by decide) hf.d)
      simp only [hj, List.map_nil] at s0
      unfold ndRes doneA msZ at b1
      simp only [Nd.ocs_eq, List.map_cons, List.map_nil, Ac.cs, zeroIt_n, hj] at b1
      generalize putR n.items key val false = p at *
      obtain ⟨p1, p2, p3⟩ := p
      simp only at he pu b1
      simp -implicitDefEqProofs -dsimp +contextual (maxSteps := 9999999) (disch := first | omega | simp only [go_sem] <;> omega | refine ib ?_; kernel_rfl) only [go_sem, seval, ↓reduceIte, f1, f2, f4, f5, f8, H5, H8, pu, b1, he, s0, hj]
    have he := Decidable.not_not.1 he
    have gt := putR_get n.items key val false he
    have gl := putR_len n.items key val false
    have gg := e19 (putR n.items key val false).1 key (by have := (gN_mid g).il; omega)
    rw [gt] at gg
    have gd := good_begin key val false back rid 0 hk hv (gN_good g hf) (by omega)
    rcases list3 n.list with hl | ⟨p, hl⟩ | ⟨p, q, r, hl⟩
    · rw [once0 back rid hj he hl] at b1
      clear gd hp
      simp only [ndRes, Nd.ocs_eq, onceN, begunR, hj, hl, List.map_cons, List.map_nil, Ac.cs, doneA, msZ] at b1
      generalize putR n.items key val false = P at *
      obtain ⟨p1, p2, p3⟩ := P
      simp only at he pu b1 gg gl gt
      simp -implicitDefEqProofs -dsimp +contextual (maxSteps := 9999999) (disch := first | omega | simp only [go_sem] <;> omega | refine ib ?_; kernel_rfl) only [go_sem, seval, ↓reduceIte, f1, f2, f4, f5, f8, H5, H8, pu, b1, he, gg, hj, hl]
      simp -implicitDefEqProofs -dsimp +contextual (maxSteps := 9999999) (disch := first | omega | simp only [go_sem] <;> omega | refine ib ?_; kernel_rfl) only [go_sem, seval, ↓reduceIte, kLoop_eq, f1, f2, f4, f5, f8, H5, H8, hj, hl]
    · have h1 := once1 back rid hj he hl
      rw [h1.1] at b1 gd
      have t1 := eTaken _ (nextI n.jobId) 0 (gd.1.m.le (by omega))
      rw [show decide ((0 : Int) = 0) = true from rfl, h1.2] at t1
      clear gd hp h1
      simp only [ndRes, Nd.ocs_eq, onceN, begunR, onceJ, copyJ, jbZ, enZ, hj, hl, List.map_cons, List.map_nil, Ac.cs, Jb.cs, It.cs, Pr.cs, strRow, doneA, copyA, msZ, Int.cast_ofNat_Int] at b1 t1
      generalize putR n.items key val false = P at *
      obtain ⟨p1, p2, p3⟩ := P
      simp only at he pu b1 gg gl gt t1
      simp -implicitDefEqProofs -dsimp +contextual (maxSteps := 9999999) (disch := first | omega | simp only [go_sem] <;> omega | refine ib ?_; kernel_rfl) only [go_sem, seval, ↓reduceIte, f1, f2, f4, f5, f8, H5, H8, pu, b1, he, gg, hj, hl]
      simp -implicitDefEqProofs -dsimp +contextual (maxSteps := 9999999) (disch := first | omega | simp only [go_sem] <;> omega | refine ib ?_; kernel_rfl) only [go_sem, seval, ↓reduceIte, kLoop_eq, f1, f2, f4, f5, f8, H5, H8, hj, hl, t1]
    · have hn : ¬ p.e.name = q.e.name := by
        have := hp 0 1 (by omega) (by rw [hl]; simp) (by rw [hl]; simp)
        simp only [hl] at this
        exact fun e => this e.symm
      have h2 := once2 back rid hj he hl hn
      rw [h2.1] at b1 gd
      have t1 := eTaken _ (nextI n.jobId) 0 (gd.1.m.le (by omega))
      have gc := good_came (nextI n.jobId) true gd.1 (by omega)
      rw [h2.2.1] at gc
      have t2 := eTaken _ (nextI n.jobId) 0 (gc.1.m.le (by omega))
      rw [show decide ((0 : Int) = 0) = true from rfl, h2.2.1] at t1
      rw [show decide ((0 : Int) = 0) = true from rfl, h2.2.2] at t2
      clear gd gc hp h2
      simp only [ndRes, Nd.ocs_eq, onceN, begunR, onceJ, copyJ, jbZ, enZ, hj, hl, List.map_cons, List.map_nil, Ac.cs, Jb.cs, It.cs, Pr.cs, strRow, doneA, copyA, msZ, Int.cast_ofNat_Int] at b1 t1 t2
      generalize putR n.items key val false = P at *
      obtain ⟨p1, p2, p3⟩ := P
      simp only at he pu b1 gg gl gt t1 t2
      have hmin : (if 2 < r.length + 1 + 1 then (2 : Int) else ((r.length + 1 + 1 : Nat) : Int)) = 2 := by split <;> omega
      simp -implicitDefEqProofs -dsimp +contextual (maxSteps := 9999999) (disch := first | omega | simp only [go_sem] <;> omega | refine ib ?_; kernel_rfl) only [go_sem, seval, ↓reduceIte, f1, f2, f4, f5, f8, H5, H8, pu, b1, he, gg, hj, hl, hmin]
      simp -implicitDefEqProofs -dsimp +contextual (maxSteps := 9999999) (disch := first | omega | simp only [go_sem] <;> omega | refine ib ?_; kernel_rfl) only [go_sem, seval, ↓reduceIte, kLoop_eq, f1, f2, f4, f5, f8, H5, H8, hj, hl, t1, t2]
  · intro f H h10
    simp -implicitDefEqProofs -dsimp +contextual (maxSteps := 9999999) (disch := first | omega | simp only [go_sem] <;> omega | refine ib ?_; kernel_rfl) only [go_sem, seval, ↓reduceIte, h10]

end Go.Proofs.Ytmfcabokoijcdaa
